/- types.fields: a struct's parts. -/
import Derived.Test.YtanhdklaponekaaTextS
namespace Go.Proofs.Ytanhdklaponekaa
open Go Go.RowKit

theorem Row.str_at {w : World} {S : Nat → Prop} {v : Value} {l : List ByteArray} (h : Row w S 1 v l.length (l.map .string)) {i : Nat} (hi : i < l.length) :
    ∃ b o cap, v = .slice (some ⟨b, o, none⟩) l.length cap ∧ S b ∧ w.cell? ⟨b, o + i, none⟩ = some (.string l[i]) := by
  obtain ⟨b, o, cap, u, h1, h2, h3, h4⟩ := h.at1 hi
  rw [List.getElem?_map, List.getElem?_eq_getElem hi] at h3
  cases h3
  exact ⟨b, o, cap, h1, h2, h4⟩
theorem Row.bool_at {w : World} {S : Nat → Prop} {v : Value} {l : List Bool} (h : Row w S 1 v l.length (l.map .bool)) {i : Nat} (hi : i < l.length) :
    ∃ b o cap, v = .slice (some ⟨b, o, none⟩) l.length cap ∧ S b ∧ w.cell? ⟨b, o + i, none⟩ = some (.bool l[i]) := by
  obtain ⟨b, o, cap, u, h1, h2, h3, h4⟩ := h.at1 hi
  rw [List.getElem?_map, List.getElem?_eq_getElem hi] at h3
  cases h3
  exact ⟨b, o, cap, h1, h2, h4⟩

theorem own_mono {w : World} {base base' : Nat} {e : TypeId} {size n : Nat} {v : Value} {xs : List Value} (h : w.ownsRow base e size v n xs) (hb : base' ≤ base) : w.ownsRow base' e size v n xs :=
  ⟨h.1, h.2.imp id fun ⟨g, cap, cur, e, hg, r⟩ => ⟨g, cap, cur, e, Nat.le_trans hb hg, r⟩⟩

set_option maxHeartbeats 2000000 in
set_option maxRecDepth 100000 in
theorem fields_calls {f : T → ByteArray} {t : T} {cs : List Value} {w : World} {S : Nat → Prop} (ih : ∀ k ∈ t.ks, TxtAt f k) (hok : t.ok) (h : TyR w S t cs) (hS : Old S w)
    (hb : ∀ i, i < t.ks.length → (fieldF f t i).size ≤ Lim) : Calls Try.prog 51 #[.agg cs.toArray] w fun e w' =>
      ∃ v, e = .returned v ∧ w'.ownsRow w.heap.size 9 1 v t.ks.length (Strs (fieldF f t) t.ks.length) ∧ Below w.heap.size w w' := by
  obtain ⟨i0, hi, iz0, iz1, iz2⟩ := info_parts info_strs
  obtain ⟨A1, c1, A2, c2, A3, c3, rfl, hn, hm, hk⟩ := h.forms
  have HS := Lib.hid hS
  have HK := Lib.hid hk
  have HN := Lib.hid hn
  have HM := Lib.hid hm
  have HO := Lib.hid (ok_kids hok).1
  have hlim : t.ks.length ≤ 1256584717458 := by have := (ok_kids hok).2; unfold Lim at this; omega
  have IH := Lib.hid ih
  have HB := Lib.hid hb
  obtain ⟨A, cap, hA, hlen⟩ := hk.form
  obtain ⟨An, capn, hAn, hlenn⟩ := hn.form
  obtain ⟨Am, capm, hAm, hlenm⟩ := hm.form
  clear h hS hk hn hm hok ih hb hA hAn hAm
  go_enter Try.func51, Try.ntmps51
  go_wp2_with fail
  go_loopg [3, 10] t.ks.length (fun d u i wr => ∃ (j : Nat) (v : Value), d = t.ks.length - j ∧ j ≤ t.ks.length ∧ i = .int .i64 j ∧ v = u ∧ Hid (wr.ownsRow (w.heap.size + 1) 9 1 v j (Strs (fieldF f t) j)) ∧
    Hid (Below (w.heap.size + 1) (w.alloc (.cells #[.int .i64 t.kd, .string t.nm, .int .i64 t.n, .bool t.fl, .slice A1 t.ns.length c1, .slice A2 t.ms.length c2, .slice A3 t.ks.length c3] 26)) wr))
  case atStart => exact ⟨0, _, by simp, by omega, rfl, rfl, World.ownsRow_nil _ _ _ _, Below.refl _ _⟩
  case round =>
    obtain ⟨j, v, rfl, hj, rfl, rfl, HOW, HBL⟩ := hrel
    have HSX : Hid (SameOn S w wr) := ((SameOn.refl S w).alloc HS.out _).trans (SameOn.of_below HBL.out (fun b hb => by have := HS.out b hb; omega))
    have hzr := HBL.out.size
    simp at hzr
    have hzb : w.heap.size < wr.heap.size := by omega
    have HSR : Hid (Old S wr) := fun b hb => by have := HS.out b hb; omega
    by_cases hlt : j < t.ks.length
    · have hr := HK.out.keep HSX.out (fun _ h => h)
      obtain ⟨b, o, c, B1, d1, B2, d2, B3, d3, hv, hSb, ⟨g0, g1, g2, g3, g4, g5, g6⟩, hkr⟩ := hr.at_ hlt
      cases hv
      have HKR := Lib.hid hkr
      clear hkr hr
      have hsz := HB.out j hlt
      have HLE : Hid ((f t.ks[j]).size ≤ Lim) := by
        unfold fieldF at hsz
        rw [T.kid_at hlt] at hsz
        split at hsz
        · rw [size_app] at hsz; unfold Hid; omega
        · exact hsz
      have HSZ := Lib.hid hsz
      clear hsz
      have hbb := HSR.out b hSb
      go_wp2_with fail
      refine (IH.out t.ks[j] (List.getElem_mem hlt) [.int .i64 t.ks[j].kd, .string t.ks[j].nm, .int .i64 t.ks[j].n, .bool t.ks[j].fl, .slice B1 t.ks[j].ns.length d1, .slice B2 t.ks[j].ms.length d2, .slice B3 t.ks[j].ks.length d3] _ S (okL_at HO.out hlt) (HKR.out.keep ?s1 (fun _ h => h)) ?s2 HLE.out).mono ?_
      case s1 => exact (SameOn.refl _ _).alloc HSR.out _
      case s2 => exact HSR.out.below ((Below.refl _ _).alloc (Nat.le_refl _) _)
      rintro e w1 ⟨rfl, hb1⟩
      have hz1 := hb1.size
      simp at hz1
      have HBW : Hid (Below wr.heap.size wr w1) := ((Below.refl wr.heap.size wr).alloc (Nat.le_refl _) _).trans (hb1.mono (by simp))
      have HS1 : Hid (SameOn S w w1) := HSX.out.trans (SameOn.of_below HBW.out HSR.out)
      have HO1 : Hid (Old S w1) := HSR.out.below HBW.out
      clear hb1 g0 g1 g2 g3 g4 g5 g6
      obtain ⟨q0, q1, q2, q3, q4, q5, q6, qf⟩ := ((Blk.new w 26 #[.int .i64 t.kd, .string t.nm, .int .i64 t.n, .bool t.fl, .slice A1 t.ns.length c1, .slice A2 t.ms.length c2, .slice (some ⟨b, o, none⟩) t.ks.length c3]).below (HBL.out.trans (HBW.out.mono (by omega))) (by omega)).cells7
      have hz1b : w.heap.size < w1.heap.size := by omega
      have hAPP : ∀ (s : ByteArray), fieldF f t j = s → ∀ (v' : Value) (w2 : World), w2.ownsRow (w.heap.size + 1) 9 1 v' (j + 1) (Strs (fieldF f t) j ++ [.string s]) → w2.ownsRow (w.heap.size + 1) 9 1 v' (j + 1) (Strs (fieldF f t) (j + 1)) := by
        intro s e v' w2 h; rw [Strs.succ, e]; exact h
      have HAPP := Lib.hid hAPP
      clear hAPP
      by_cases hnn : j < t.ns.length
      · obtain ⟨bn, on, cn, hvn, hSn, hcn⟩ := (HN.out.keep HS1.out).str_at hnn
        cases hvn
        have hbn := HO1.out bn hSn
        by_cases hmm : j < t.ms.length
        · obtain ⟨bm, om, cm, hvm, hSm, hcm⟩ := (HM.out.keep HS1.out).bool_at hmm
          cases hvm
          have hbm := HO1.out bm hSm
          have hnm : named t j = !t.ms[j] := by unfold named; rw [decide_eq_true hnn, decide_eq_false (by omega), List.getElem?_eq_getElem hmm]; simp
          by_cases htm : t.ms[j] = true
          · rw [htm] at hcm hnm
            have HF : Hid (fieldF f t j = f t.ks[j]) := by unfold Hid fieldF; rw [hnm, T.kid_at hlt]; rfl
            clear hnm htm
            go_wp2_with (at_builtin; (refine wpList_append_row _ rfl _ _ 22 rfl (w.heap.size + 1) 9 i0 _ 1 16 Try.underlying22 hi iz0 iz1 iz2 rfl (by omega) v j (Strs (fieldF f t) j) rfl ?c1 (fun b => b = w1.heap.size) (.slice (some ⟨w1.heap.size, 0, none⟩) 1 1) 1 [.string (f t.ks[j])] rfl ?c2 ?c3 ?c4 ?c5 ?c6 ?_))
            case c1 => exact (own_below HOW.out HBW.out).alloc _
            case c2 => exact row_lit w1 _ 1 rfl (by unfold maxLen; omega)
            case c3 => intro u hu; simp at hu; subst hu; rfl
            case c4 => unfold maxLen; omega
            case c5 => omega
            case c6 => simp; omega
            intro v' w2 hown hg hnil hat
            have HON := Lib.hid (HAPP.out _ HF.out _ _ hown)
            have hbn : Hid (Below (w.heap.size + 1) _ w2) := ((HBL.out.trans (HBW.out.mono (by omega))).alloc (by omega) _).grown hg (by simp; omega) (fun k hk => (HOW.out.lt k hk).1)
            clear hown hg hnil hat
            go_wp2_with fail
            go_roundg (t.ks.length - (j + 1))
            case measure => omega
            case rel => exact ⟨j + 1, _, rfl, by omega, by go_num, rfl, HON, hbn⟩
          · rw [Bool.not_eq_true] at htm
            rw [htm] at hcm hnm
            have hf : fieldF f t j = t.ns[j] ++ bs [32] ++ f t.ks[j] := by unfold fieldF; rw [hnm, T.kid_at hlt, List.getElem?_eq_getElem hnn]; rfl
            have hsz := HSZ.out
            rw [hf, size_app, size_app, size_bs] at hsz
            simp only [List.length_cons, List.length_nil] at hsz
            have hs1 : ¬9223372036854775807 < t.ns[j].size + 1 := by unfold Lim at hsz; omega
            have hs2 : ¬9223372036854775807 < t.ns[j].size + 1 + (f t.ks[j]).size := by unfold Lim at hsz; omega
            have HF := Lib.hid hf
            clear hnm htm hsz hf
            go_wp2_with (at_builtin; (refine wpList_append_row _ rfl _ _ 22 rfl (w.heap.size + 1) 9 i0 _ 1 16 Try.underlying22 hi iz0 iz1 iz2 rfl (by omega) v j (Strs (fieldF f t) j) rfl ?c1 (fun b => b = w1.heap.size) (.slice (some ⟨w1.heap.size, 0, none⟩) 1 1) 1 [.string (t.ns[j] ++ bs [32] ++ f t.ks[j])] rfl ?c2 ?c3 ?c4 ?c5 ?c6 ?_))
            case c1 => exact (own_below HOW.out HBW.out).alloc _
            case c2 => exact row_lit w1 _ 1 rfl (by unfold maxLen; omega)
            case c3 => intro u hu; simp at hu; subst hu; rfl
            case c4 => unfold maxLen; omega
            case c5 => omega
            case c6 => simp; omega
            intro v' w2 hown hg hnil hat
            have HON := Lib.hid (HAPP.out _ HF.out _ _ hown)
            have hbn : Hid (Below (w.heap.size + 1) _ w2) := ((HBL.out.trans (HBW.out.mono (by omega))).alloc (by omega) _).grown hg (by simp; omega) (fun k hk => (HOW.out.lt k hk).1)
            clear hown hg hnil hat
            go_wp2_with fail
            go_roundg (t.ks.length - (j + 1))
            case measure => omega
            case rel => exact ⟨j + 1, _, rfl, by omega, by go_num, rfl, HON, hbn⟩
        · have hnm : named t j = true := by unfold named; rw [decide_eq_true hnn, decide_eq_true (by omega)]; rfl
          have hf : fieldF f t j = t.ns[j] ++ bs [32] ++ f t.ks[j] := by unfold fieldF; rw [hnm, T.kid_at hlt, List.getElem?_eq_getElem hnn]; rfl
          have hsz := HSZ.out
          rw [hf, size_app, size_app, size_bs] at hsz
          simp only [List.length_cons, List.length_nil] at hsz
          have hs1 : ¬9223372036854775807 < t.ns[j].size + 1 := by unfold Lim at hsz; omega
          have hs2 : ¬9223372036854775807 < t.ns[j].size + 1 + (f t.ks[j]).size := by unfold Lim at hsz; omega
          have HF := Lib.hid hf
          clear hnm hsz hf
          go_wp2_with (at_builtin; (refine wpList_append_row _ rfl _ _ 22 rfl (w.heap.size + 1) 9 i0 _ 1 16 Try.underlying22 hi iz0 iz1 iz2 rfl (by omega) v j (Strs (fieldF f t) j) rfl ?c1 (fun b => b = w1.heap.size) (.slice (some ⟨w1.heap.size, 0, none⟩) 1 1) 1 [.string (t.ns[j] ++ bs [32] ++ f t.ks[j])] rfl ?c2 ?c3 ?c4 ?c5 ?c6 ?_))
          case c1 => exact (own_below HOW.out HBW.out).alloc _
          case c2 => exact row_lit w1 _ 1 rfl (by unfold maxLen; omega)
          case c3 => intro u hu; simp at hu; subst hu; rfl
          case c4 => unfold maxLen; omega
          case c5 => omega
          case c6 => simp; omega
          intro v' w2 hown hg hnil hat
          have HON := Lib.hid (HAPP.out _ HF.out _ _ hown)
          have hbn : Hid (Below (w.heap.size + 1) _ w2) := ((HBL.out.trans (HBW.out.mono (by omega))).alloc (by omega) _).grown hg (by simp; omega) (fun k hk => (HOW.out.lt k hk).1)
          clear hown hg hnil hat
          go_wp2_with fail
          go_roundg (t.ks.length - (j + 1))
          case measure => omega
          case rel => exact ⟨j + 1, _, rfl, by omega, by go_num, rfl, HON, hbn⟩
      · have hnm : named t j = false := by unfold named; rw [decide_eq_false hnn]; rfl
        have HF : Hid (fieldF f t j = f t.ks[j]) := by unfold Hid fieldF; rw [hnm, T.kid_at hlt]; rfl
        clear hnm
        go_wp2_with (at_builtin; (refine wpList_append_row _ rfl _ _ 22 rfl (w.heap.size + 1) 9 i0 _ 1 16 Try.underlying22 hi iz0 iz1 iz2 rfl (by omega) v j (Strs (fieldF f t) j) rfl ?c1 (fun b => b = w1.heap.size) (.slice (some ⟨w1.heap.size, 0, none⟩) 1 1) 1 [.string (f t.ks[j])] rfl ?c2 ?c3 ?c4 ?c5 ?c6 ?_))
        case c1 => exact (own_below HOW.out HBW.out).alloc _
        case c2 => exact row_lit w1 _ 1 rfl (by unfold maxLen; omega)
        case c3 => intro u hu; simp at hu; subst hu; rfl
        case c4 => unfold maxLen; omega
        case c5 => omega
        case c6 => simp; omega
        intro v' w2 hown hg hnil hat
        have HON := Lib.hid (HAPP.out _ HF.out _ _ hown)
        have hbn : Hid (Below (w.heap.size + 1) _ w2) := ((HBL.out.trans (HBW.out.mono (by omega))).alloc (by omega) _).grown hg (by simp; omega) (fun k hk => (HOW.out.lt k hk).1)
        clear hown hg hnil hat
        go_wp2_with fail
        go_roundg (t.ks.length - (j + 1))
        case measure => omega
        case rel => exact ⟨j + 1, _, rfl, by omega, by go_num, rfl, HON, hbn⟩
    · obtain rfl : j = t.ks.length := by omega
      have HBW : Hid (Below w.heap.size w wr) := ((Below.refl _ _).alloc (Nat.le_refl _) _).trans (HBL.out.mono (by omega))
      have HRR : Hid (wr.ownsRow w.heap.size 9 1 v t.ks.length (Strs (fieldF f t) t.ks.length)) := own_mono HOW.out (by omega)
      clear HOW
      go_wp2_with fail
      go_ret
      exact ⟨_, rfl, HRR.out, HBW.out⟩
end Go.Proofs.Ytanhdklaponekaa
