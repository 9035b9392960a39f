/- types.methods: an interface's text. -/
import Derived.Test.YtanhdklaponekaaTextF
namespace Go.Proofs.Ytanhdklaponekaa
open Go Go.RowKit

theorem braced_ge {head x : ByteArray} {l : List ByteArray} (h : x ∈ l) : x.size ≤ (bracedF head l).size := by
  unfold bracedF
  rw [if_neg (by intro e; rw [List.eq_nil_of_length_eq_zero e] at h; cases h)]
  have := joinB_ge (sep := bs [59, 32]) h
  rw [size_app, size_app]
  omega

set_option maxHeartbeats 2000000 in
set_option maxRecDepth 100000 in
theorem methods_calls {f : T → ByteArray} {t : T} {cs : List Value} {w : World} {S : Nat → Prop} (ih : ∀ k ∈ t.ks, ∀ x ∈ k.ks, TxtAt f x) (ih0 : ∀ k ∈ t.ks, ∀ x ∈ k.ks, TxtAt f (x.kid 0)) (hok : t.ok) (h : TyR w S t cs) (hS : Old S w)
    (hb : (methsF f t).size ≤ Lim) : Calls Try.prog 52 #[.agg cs.toArray] w fun e w' => e = .returned (.string (methsF f t)) ∧ Below w.heap.size w w' := by
  obtain ⟨i0, hi, iz0, iz1, iz2⟩ := info_parts info_strs
  obtain ⟨A1, c1, A2, c2, A3, c3, rfl, hn, -, hk⟩ := h.forms
  have HS := Lib.hid hS
  have HK := Lib.hid hk
  have HN := Lib.hid hn
  have HO := Lib.hid (ok_kids hok).1
  have hlim : t.ks.length ≤ 1256584717458 := by have := (ok_kids hok).2; unfold Lim at this; omega
  have IH := Lib.hid ih
  have IH0 := Lib.hid ih0
  obtain ⟨A, cap, hA, hlen⟩ := hk.form
  obtain ⟨An, capn, hAn, hlenn⟩ := hn.form
  clear h hS hk hn hok ih ih0 hA hAn
  by_cases h0 : t.ks.length = 0
  · have HF : Hid (methsF f t = bs [97, 110, 121]) := by unfold Hid methsF; rw [if_pos h0]
    have hk0 : ((t.ks.length : Int) == 0) = true := by simpa using h0
    rw [h0] at hk0 ⊢
    clear h0 hb
    go_enter Try.func52, Try.ntmps52
    go_wp2_with fail
    go_ret
    exact ⟨by rw [HF.out]; rfl, (Below.refl _ _).alloc (Nat.le_refl _) _⟩
  have hmf : methsF f t = bracedF (bs [105, 110, 116, 101, 114, 102, 97, 99, 101]) ((List.range t.ks.length).map (methF f t)) := by unfold methsF; rw [if_neg h0]
  have HMF := Lib.hid hmf
  rw [hmf] at hb
  have HB := Lib.hid hb
  have hk0 : ((t.ks.length : Int) == 0) = false := by simpa using h0
  clear hmf hb h0
  go_enter Try.func52, Try.ntmps52
  go_wp2_with fail
  go_loopg [3, 14] t.ks.length (fun d u i wr => ∃ (j : Nat) (v : Value), d = t.ks.length - j ∧ j ≤ t.ks.length ∧ i = .int .i64 j ∧ v = u ∧ Hid (wr.ownsRow (w.heap.size + 1) 9 1 v j (Strs (methF f t) j)) ∧
    Hid (Below (w.heap.size + 1) (w.alloc (.cells #[.int .i64 t.kd, .string t.nm, .int .i64 t.n, .bool t.fl, .slice A1 t.ns.length c1, .slice A2 t.ms.length c2, .slice A3 t.ks.length c3] 26)) wr))
  case atStart => exact ⟨0, _, by simp, by omega, rfl, rfl, World.ownsRow_nil _ _ _ _, Below.refl _ _⟩
  case round =>
    obtain ⟨j, v, rfl, hj, rfl, rfl, HOW, HBL⟩ := hrel
    have HSX : Hid (SameOn S w wr) := ((SameOn.refl S w).alloc HS.out _).trans (SameOn.of_below HBL.out (fun b hb => by have := HS.out b hb; omega))
    have hzr := HBL.out.size
    simp at hzr
    have hzb : w.heap.size < wr.heap.size := by omega
    have HSR : Hid (Old S wr) := fun b hb => by have := HS.out b hb; omega
    by_cases hlt : j < t.ks.length
    · have hr := HK.out.keep HSX.out (fun _ h => h)
      obtain ⟨b, o, c, B1, d1, B2, d2, B3, d3, hv, hSb, ⟨g0, g1, g2, g3, g4, g5, g6⟩, hkr⟩ := hr.at_ hlt
      cases hv
      have HKR := Lib.hid hkr
      clear hkr hr
      have hsz : (methF f t j).size ≤ Lim := Nat.le_trans (braced_ge (List.mem_map_of_mem (List.mem_range.2 hlt))) HB.out
      have hsz2 := hsz
      unfold methF at hsz2
      rw [T.kid_at hlt, size_app] at hsz2
      have HLE : Hid ((sigF f t.ks[j]).size ≤ Lim) := by unfold Hid; omega
      have hbb := HSR.out b hSb
      obtain ⟨q0, q1, q2, q3, q4, q5, q6, qf⟩ := ((Blk.new w 26 #[.int .i64 t.kd, .string t.nm, .int .i64 t.n, .bool t.fl, .slice A1 t.ns.length c1, .slice A2 t.ms.length c2, .slice (some ⟨b, o, none⟩) t.ks.length c3]).below HBL.out (by omega)).cells7
      by_cases hnn : j < t.ns.length
      · obtain ⟨bn, on, cn, hvn, hSn, hcn⟩ := (HN.out.keep HSX.out).str_at hnn
        cases hvn
        have hbn := HSR.out bn hSn
        have hf : methF f t j = t.ns[j] ++ sigF f t.ks[j] := by unfold methF; rw [T.kid_at hlt, List.getElem?_eq_getElem hnn]; rfl
        rw [List.getElem?_eq_getElem hnn, Option.getD_some] at hsz2
        have hs1 : ¬9223372036854775807 < t.ns[j].size + (sigF f t.ks[j]).size := by unfold Lim at hsz2; omega
        have HF := Lib.hid hf
        clear hf hsz hsz2
        go_wp2_with fail
        refine (sig_calls (f := f) (t := t.ks[j]) (cs := [.int .i64 t.ks[j].kd, .string t.ks[j].nm, .int .i64 t.ks[j].n, .bool t.ks[j].fl, .slice B1 t.ks[j].ns.length d1, .slice B2 t.ks[j].ms.length d2, .slice B3 t.ks[j].ks.length d3]) (S := S) (IH.out _ (List.getElem_mem hlt)) (IH0.out _ (List.getElem_mem hlt)) (okL_at HO.out hlt) (HKR.out.keep ?s1 (fun _ h => h)) ?s2 HLE.out).mono ?_
        case s1 => exact (SameOn.refl _ _).alloc HSR.out _
        case s2 => exact HSR.out.below ((Below.refl _ _).alloc (Nat.le_refl _) _)
        rintro e w1 ⟨rfl, hb1⟩
        have hz1 := hb1.size
        simp at hz1
        have HBW : Hid (Below wr.heap.size wr w1) := ((Below.refl wr.heap.size wr).alloc (Nat.le_refl _) _).trans (hb1.mono (by simp))
        clear hb1
        go_wp2_with (at_builtin; (refine wpList_append_row _ rfl _ _ 22 rfl (w.heap.size + 1) 9 i0 _ 1 16 Try.underlying22 hi iz0 iz1 iz2 rfl (by omega) v j (Strs (methF f t) j) rfl ?c1 (fun b => b = w1.heap.size) (.slice (some ⟨w1.heap.size, 0, none⟩) 1 1) 1 [.string (t.ns[j] ++ sigF f t.ks[j])] rfl ?c2 ?c3 ?c4 ?c5 ?c6 ?_))
        case c1 => exact (own_below HOW.out HBW.out).alloc _
        case c2 => exact row_lit w1 _ 1 rfl (by unfold maxLen; omega)
        case c3 => intro u hu; simp at hu; subst hu; rfl
        case c4 => unfold maxLen; omega
        case c5 => omega
        case c6 => simp; omega
        intro v' w2 hown hg hnil hat
        have hst : w2.ownsRow (w.heap.size + 1) 9 1 v' (j + 1) (Strs (methF f t) (j + 1)) := by
          rw [Strs.succ, HF.out]
          exact hown
        have HON := Lib.hid hst
        have hbn : Hid (Below (w.heap.size + 1) _ w2) := ((HBL.out.trans (HBW.out.mono (by omega))).alloc (by omega) _).grown hg (by simp; omega) (fun k hk => (HOW.out.lt k hk).1)
        clear hst hown hg hnil hat
        go_wp2_with fail
        go_roundg (t.ks.length - (j + 1))
        case measure => omega
        case rel => exact ⟨j + 1, _, rfl, by omega, by go_num, rfl, HON, hbn⟩
      · have hf : methF f t j = ⟨#[]⟩ ++ sigF f t.ks[j] := by unfold methF; rw [T.kid_at hlt, List.getElem?_eq_none (by omega)]; rfl
        have hs1 : ¬9223372036854775807 < (sigF f t.ks[j]).size := by have := HLE.out; unfold Lim at this; omega
        have HF := Lib.hid hf
        clear hf hsz hsz2
        go_wp2_with fail
        refine (sig_calls (f := f) (t := t.ks[j]) (cs := [.int .i64 t.ks[j].kd, .string t.ks[j].nm, .int .i64 t.ks[j].n, .bool t.ks[j].fl, .slice B1 t.ks[j].ns.length d1, .slice B2 t.ks[j].ms.length d2, .slice B3 t.ks[j].ks.length d3]) (S := S) (IH.out _ (List.getElem_mem hlt)) (IH0.out _ (List.getElem_mem hlt)) (okL_at HO.out hlt) (HKR.out.keep ?s1 (fun _ h => h)) ?s2 HLE.out).mono ?_
        case s1 => exact (SameOn.refl _ _).alloc HSR.out _
        case s2 => exact HSR.out.below ((Below.refl _ _).alloc (Nat.le_refl _) _)
        rintro e w1 ⟨rfl, hb1⟩
        have hz1 := hb1.size
        simp at hz1
        have HBW : Hid (Below wr.heap.size wr w1) := ((Below.refl wr.heap.size wr).alloc (Nat.le_refl _) _).trans (hb1.mono (by simp))
        clear hb1
        go_wp2_with (at_builtin; (refine wpList_append_row _ rfl _ _ 22 rfl (w.heap.size + 1) 9 i0 _ 1 16 Try.underlying22 hi iz0 iz1 iz2 rfl (by omega) v j (Strs (methF f t) j) rfl ?c1 (fun b => b = w1.heap.size) (.slice (some ⟨w1.heap.size, 0, none⟩) 1 1) 1 [.string (⟨#[]⟩ ++ sigF f t.ks[j])] rfl ?c2 ?c3 ?c4 ?c5 ?c6 ?_))
        case c1 => exact (own_below HOW.out HBW.out).alloc _
        case c2 => exact row_lit w1 _ 1 rfl (by unfold maxLen; omega)
        case c3 => intro u hu; simp at hu; subst hu; rfl
        case c4 => unfold maxLen; omega
        case c5 => omega
        case c6 => simp; omega
        intro v' w2 hown hg hnil hat
        have hst : w2.ownsRow (w.heap.size + 1) 9 1 v' (j + 1) (Strs (methF f t) (j + 1)) := by
          rw [Strs.succ, HF.out]
          exact hown
        have HON := Lib.hid hst
        have hbn : Hid (Below (w.heap.size + 1) _ w2) := ((HBL.out.trans (HBW.out.mono (by omega))).alloc (by omega) _).grown hg (by simp; omega) (fun k hk => (HOW.out.lt k hk).1)
        clear hst hown hg hnil hat
        go_wp2_with fail
        go_roundg (t.ks.length - (j + 1))
        case measure => omega
        case rel => exact ⟨j + 1, _, rfl, by omega, by go_num, rfl, HON, hbn⟩
    · obtain rfl : j = t.ks.length := by omega
      have hll : ((List.range t.ks.length).map (methF f t)).length = t.ks.length := by simp
      have hL := strs_row HOW.out
      have HL := Lib.hid (strs_row HOW.out)
      rw [hll] at HL
      have HLL := Lib.hid hll
      have HOL : Hid (Old (fun b => v.ownBlock = some b) wr) := fun b hb => (HOW.out.lt b hb).2
      have HLM : Hid (t.ks.length ≤ Lim) := by unfold Hid Lim; omega
      have HBR : Hid (Below w.heap.size w wr) := ((Below.refl _ _).alloc (Nat.le_refl _) _).trans (HBL.out.mono (by omega))
      clear hL hll
      go_wp2_with fail
      refine (braced_calls (head := bs [105, 110, 116, 101, 114, 102, 97, 99, 101]) (by rw [HLL.out]; exact HL.out) HOL.out (by rw [HLL.out]; exact HLM.out) HB.out).mono ?_
      rintro e w1 ⟨rfl, hb1⟩
      have HBW : Hid (Below w.heap.size w w1) := HBR.out.trans (hb1.mono (by omega))
      clear hb1
      go_wp2_with fail
      go_ret
      exact ⟨by rw [HMF.out]; rfl, HBW.out⟩
end Go.Proofs.Ytanhdklaponekaa
