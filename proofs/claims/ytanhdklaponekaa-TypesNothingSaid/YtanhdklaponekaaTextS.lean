/- types.signature: a function's text without func. -/
import Derived.Test.YtanhdklaponekaaTextJ
namespace Go.Proofs.Ytanhdklaponekaa
open Go Go.RowKit

theorem TysR.take {w : World} {S : Nat → Prop} : ∀ {ts : List T} {cs : List Value} (m : Nat), TysR w S ts cs → TysR w S (ts.take m) (cs.take (m * 7))
  | ts, cs, 0, h => by simp [TysR]
  | [], cs, m + 1, h => by simp only [TysR] at h; subst h; simp [TysR]
  | t :: ts, cs, m + 1, h => by
    simp only [TysR] at h
    obtain ⟨c1, c2, rfl, a, b⟩ := h
    have e : (c1 ++ c2).take ((m + 1) * 7) = c1 ++ c2.take (m * 7) := by
      rw [List.take_append, List.take_of_length_le (by rw [a.len]; omega), a.len]; congr 2; omega
    rw [e, List.take_succ_cons]
    simp only [TysR]
    exact ⟨c1, _, rfl, a, TysR.take m b⟩
theorem TysR.drop {w : World} {S : Nat → Prop} : ∀ {ts : List T} {cs : List Value} (m : Nat), TysR w S ts cs → TysR w S (ts.drop m) (cs.drop (m * 7))
  | ts, cs, 0, h => by simpa using h
  | [], cs, m + 1, h => by simp only [TysR] at h; subst h; simp [TysR]
  | t :: ts, cs, m + 1, h => by
    simp only [TysR] at h
    obtain ⟨c1, c2, rfl, a, b⟩ := h
    have e : (c1 ++ c2).drop ((m + 1) * 7) = c2.drop (m * 7) := by
      rw [List.drop_append, List.drop_eq_nil_of_le (by rw [a.len]; omega), a.len, List.nil_append]; congr 1; omega
    rw [e, List.drop_succ_cons]
    exact TysR.drop m b
theorem RowT.cap_le {w : World} {S : Nat → Prop} {A : Option Addr} {n c : Nat} {ts : List T} (h : RowT w S (.slice A n c) ts) : ts.length ≤ c := by
  obtain ⟨xs, ⟨h1, A', cap, e, h2, h3, h0, h4⟩, ht⟩ := h
  cases e; exact h2
theorem RowT.take {w : World} {S : Nat → Prop} {A : Option Addr} {n c : Nat} {ts : List T} (h : RowT w S (.slice A n c) ts) {m : Nat} (hm : m ≤ ts.length) : RowT w S (.slice A m c) (ts.take m) := by
  obtain ⟨xs, ⟨h1, A', cap, e, h2, h3, h0, h4⟩, ht⟩ := h
  cases e
  have hl : (ts.take m).length = m := by rw [List.length_take]; omega
  refine ⟨xs.take (m * 7), ⟨by rw [List.length_take, h1, hl]; omega, A, c, by rw [hl], by rw [hl]; omega, h3, h0, fun hn => ?_⟩, ht.take m⟩
  rw [hl] at hn
  obtain ⟨b, o, rfl, hS, hc⟩ := h4 (by omega)
  refine ⟨b, o, rfl, hS, fun j u hj => ?_⟩
  rw [List.getElem?_take] at hj
  split at hj
  · exact hc j u hj
  · cases hj
theorem RowT.drop {w : World} {S : Nat → Prop} {A : Option Addr} {n c : Nat} {ts : List T} (h : RowT w S (.slice A n c) ts) {m : Nat} (hm : m ≤ ts.length) :
    RowT w S (.slice (if c = m then A else A.map (fun x => x.add (m * 7))) (ts.length - m) (c - m)) (ts.drop m) := by
  obtain ⟨xs, ⟨h1, A', cap, e, h2, h3, h0, h4⟩, ht⟩ := h
  cases e
  have hl : (ts.drop m).length = ts.length - m := List.length_drop
  refine ⟨xs.drop (m * 7), ⟨by rw [List.length_drop, h1, hl]; omega, _, c - m, by rw [hl], by rw [hl]; omega, by omega, fun e => ?_, fun hn => ?_⟩, ht.drop m⟩
  · split at e
    · omega
    · cases A with
      | none => have := h0 rfl; omega
      | some q => cases e
  · rw [hl] at hn
    obtain ⟨b, o, rfl, hS, hc⟩ := h4 (by omega)
    rw [if_neg (by omega)]
    refine ⟨b, o + m * 7, ?_, hS, fun j u hj => ?_⟩
    · show some (Addr.add ⟨b, o, none⟩ (m * 7)) = _
      unfold Addr.add
      split
      · rename_i h; rw [h]; rfl
      · rfl
    · rw [List.getElem?_drop] at hj
      rw [Nat.add_assoc]
      exact hc _ u hj

set_option maxHeartbeats 2000000 in
set_option maxRecDepth 100000 in
theorem sig_calls {f : T → ByteArray} {t : T} {cs : List Value} {w : World} {S : Nat → Prop} (ih : ∀ k ∈ t.ks, TxtAt f k) (ih0 : ∀ k ∈ t.ks, TxtAt f (k.kid 0)) (hok : t.ok) (h : TyR w S t cs) (hS : Old S w)
    (hb : (sigF f t).size ≤ Lim) : Calls Try.prog 49 #[.agg cs.toArray] w fun e w' => e = .returned (.string (sigF f t)) ∧ Below w.heap.size w w' := by
  obtain ⟨i0, hi, iz0, iz1, iz2⟩ := info_parts info_strs
  obtain ⟨A1, c1, A2, c2, A3, c3, rfl, -, -, hk⟩ := h.forms
  have HS := Lib.hid hS
  have HK := Lib.hid hk
  have HO := Lib.hid (ok_kids hok).1
  have HOT := Lib.hid hok
  have hlim : t.ks.length ≤ 1256584717458 := by have := (ok_kids hok).2; unfold Lim at this; omega
  have IH := Lib.hid ih
  have IH0 := Lib.hid ih0
  have HB := Lib.hid hb
  have hc3 := hk.cap_le
  obtain ⟨m, hm⟩ : ∃ m : Nat, arity t = m := ⟨_, rfl⟩
  have hml : m ≤ t.ks.length := by rw [← hm]; exact Nat.min_le_right _ _
  have hmin : min (max t.n 0) (t.ks.length : Int) = (m : Int) := by rw [← hm, arity]; omega
  have hmc : m ≤ c3 := by omega
  have HM := Lib.hid hm
  obtain ⟨A, cap, hA, hlen⟩ := hk.form
  clear h hS hk hok ih ih0 hb hm hA
  go_enter Try.func49, Try.ntmps49
  go_wp2_with fail
  go_loopg [4, 21] m (fun d u i wr => ∃ (j : Nat) (v : Value), d = m - j ∧ j ≤ m ∧ i = .int .i64 j ∧ v = u ∧ Hid (wr.ownsRow (w.heap.size + 1) 9 1 v j (Strs (inF f t) j)) ∧
    Hid (Below (w.heap.size + 1) (w.alloc (.cells #[.int .i64 t.kd, .string t.nm, .int .i64 t.n, .bool t.fl, .slice A1 t.ns.length c1, .slice A2 t.ms.length c2, .slice A3 t.ks.length c3] 26)) wr))
  case atStart => exact ⟨0, _, by simp, by omega, rfl, rfl, World.ownsRow_nil _ _ _ _, Below.refl _ _⟩
  case round =>
    obtain ⟨j, v, rfl, hj, rfl, rfl, HOW, HBL⟩ := hrel
    obtain ⟨q0, q1, q2, q3, q4, q5, q6, qf⟩ := ((Blk.new w 26 #[.int .i64 t.kd, .string t.nm, .int .i64 t.n, .bool t.fl, .slice A1 t.ns.length c1, .slice A2 t.ms.length c2, .slice A3 t.ks.length c3]).below HBL.out (by omega)).cells7
    have HSX : Hid (SameOn S w wr) := ((SameOn.refl S w).alloc HS.out _).trans (SameOn.of_below HBL.out (fun b hb => by have := HS.out b hb; omega))
    have hzr := HBL.out.size
    simp at hzr
    have hzb : w.heap.size < wr.heap.size := by omega
    have HSR : Hid (Old S wr) := fun b hb => by have := HS.out b hb; omega
    by_cases hlt : j < m
    · have hr := HK.out.keep HSX.out (fun _ h => h)
      have hjk : j < t.ks.length := by omega
      obtain ⟨b, o, c, B1, d1, B2, d2, B3, d3, hv, hSb, ⟨g0, g1, g2, g3, g4, g5, g6⟩, hkr⟩ := hr.at_ hjk
      cases hv
      have HKR := Lib.hid hkr
      have hbb := HSR.out b hSb
      clear hkr hr
      have hin := in_le f t (i := j) (by rw [HM.out]; exact hlt)
      by_cases hvar : t.fl = true ∧ j + 1 = m
      · obtain ⟨hfl, hlast⟩ := hvar
        have hj1 : ((j : Int) == (m : Int) - 1) = true := by simp; omega
        rw [hfl] at q3
        by_cases h11 : t.ks[j].kd = 11
        · have HIN : Hid (inF f t j = bs [46, 46, 46] ++ f (t.ks[j].kid 0)) := by unfold Hid inF; rw [T.kid_at hjk, if_pos ⟨hfl, by rw [HM.out]; exact hlast⟩, if_pos h11]
          rw [HIN.out, size_app, size_bs] at hin
          simp only [List.length_cons, List.length_nil] at hin
          have HLE : Hid ((f (t.ks[j].kid 0)).size ≤ Lim) := by have := HB.out; unfold Hid; omega
          have hs1 : ¬9223372036854775807 < 3 + (f (t.ks[j].kid 0)).size := by have := HB.out; unfold Lim at this; omega
          have hk11 : (t.ks[j].kd == 11) = true := by simpa using h11
          clear hin h11 hfl hlast
          go_wp2_with fail
          refine (kid_calls (HKR.out.keep ?s1 (fun _ h => h)) ?s2).mono ?_
          case s1 => exact (SameOn.refl _ _).alloc HSR.out _
          case s2 => exact HSR.out.below ((Below.refl _ _).alloc (Nat.le_refl _) _)
          rintro e w0 ⟨ds, rfl, hkd, hb0⟩
          have hz0 := hb0.size
          simp at hz0
          have HBK : Hid (Below wr.heap.size wr w0) := ((Below.refl wr.heap.size wr).alloc (Nat.le_refl _) _).trans (hb0.mono (by simp))
          obtain ⟨D1, e1, D2, e2, D3, e3, rfl, -⟩ := hkd.forms
          have HKD := Lib.hid hkd
          have HBX := Lib.hid ((Blk.new wr 26 #[.int .i64 t.ks[j].kd, .string t.ks[j].nm, .int .i64 t.ks[j].n, .bool t.ks[j].fl, .slice B1 t.ks[j].ns.length d1, .slice B2 t.ks[j].ms.length d2, .slice B3 t.ks[j].ks.length d3]).below hb0 (by simp))
          clear hkd hb0
          obtain ⟨x0, x1, x2, x3, x4, x5, x6, xf⟩ := HBX.out.cells7
          go_wp2_with fail
          refine (IH0.out t.ks[j] (List.getElem_mem hjk) [.int .i64 (t.ks[j].kid 0).kd, .string (t.ks[j].kid 0).nm, .int .i64 (t.ks[j].kid 0).n, .bool (t.ks[j].kid 0).fl, .slice D1 (t.ks[j].kid 0).ns.length e1, .slice D2 (t.ks[j].kid 0).ms.length e2, .slice D3 (t.ks[j].kid 0).ks.length e3] _ S (ok_kid (okL_at HO.out hjk) 0) (HKD.out.keep ?s3 (fun _ h => h)) ?s4 HLE.out).mono ?_
          case s3 =>
            have hn : ¬S wr.heap.size := fun h => Nat.lt_irrefl _ (HSR.out _ h)
            refine SameOn.set_ (SameOn.set_ (SameOn.set_ (SameOn.set_ (SameOn.set_ (SameOn.set_ (SameOn.set_ ?_ hn _) hn _) hn _) hn _) hn _) hn _) hn _
            exact SameOn.refl _ _
          case s4 =>
            intro b hb
            have := HSR.out b hb
            simp [World.setCell]
            omega
          rintro e w1 ⟨rfl, hb1⟩
          have hz1 := hb1.size
          simp [World.setCell] at hz1
          have HBW : Hid (Below wr.heap.size wr w1) := (((((((HBK.out.setCell (Nat.le_refl _) _).setCell (Nat.le_refl _) _).setCell (Nat.le_refl _) _).setCell (Nat.le_refl _) _).setCell (Nat.le_refl _) _).setCell (Nat.le_refl _) _).setCell (Nat.le_refl _) _).trans (hb1.mono (by simp [World.setCell]; omega))
          clear hb1
          go_wp2_with (at_builtin; (refine wpList_append_row _ rfl _ _ 22 rfl (w.heap.size + 1) 9 i0 _ 1 16 Try.underlying22 hi iz0 iz1 iz2 rfl (by omega) v j (Strs (inF f t) j) rfl ?c1 (fun b => b = w1.heap.size) (.slice (some ⟨w1.heap.size, 0, none⟩) 1 1) 1 [.string (bs [46, 46, 46] ++ f (t.ks[j].kid 0))] rfl ?c2 ?c3 ?c4 ?c5 ?c6 ?_))
          case c1 => exact (own_below HOW.out HBW.out).alloc _
          case c2 => exact row_lit w1 _ 1 rfl (by unfold maxLen; omega)
          case c3 => intro u hu; simp at hu; subst hu; rfl
          case c4 => unfold maxLen; omega
          case c5 => omega
          case c6 => simp; omega
          intro v' w2 hown hg hnil hat
          have hst : w2.ownsRow (w.heap.size + 1) 9 1 v' (j + 1) (Strs (inF f t) (j + 1)) := by
            rw [Strs.succ, HIN.out]
            exact hown
          have HON := Lib.hid hst
          have hbn : Hid (Below (w.heap.size + 1) _ w2) := ((HBL.out.trans (HBW.out.mono (by omega))).alloc (by omega) _).grown hg (by simp; omega) (fun k hk => (HOW.out.lt k hk).1)
          clear hst hown hg hnil hat
          go_wp2_with fail
          go_roundg (m - (j + 1))
          case measure => omega
          case rel => exact ⟨j + 1, _, rfl, by omega, by go_num, rfl, HON, hbn⟩
        · have HIN : Hid (inF f t j = bs [46, 46, 46] ++ f t.ks[j]) := by unfold Hid inF; rw [T.kid_at hjk, if_pos ⟨hfl, by rw [HM.out]; exact hlast⟩, if_neg h11]
          rw [HIN.out, size_app, size_bs] at hin
          simp only [List.length_cons, List.length_nil] at hin
          have HLE : Hid ((f t.ks[j]).size ≤ Lim) := by have := HB.out; unfold Hid; omega
          have hs1 : ¬9223372036854775807 < 3 + (f t.ks[j]).size := by have := HB.out; unfold Lim at this; omega
          have hk11 : (t.ks[j].kd == 11) = false := by simpa using h11
          clear hin h11 hfl hlast
          go_wp2_with fail
          refine (IH.out t.ks[j] (List.getElem_mem hjk) [.int .i64 t.ks[j].kd, .string t.ks[j].nm, .int .i64 t.ks[j].n, .bool t.ks[j].fl, .slice B1 t.ks[j].ns.length d1, .slice B2 t.ks[j].ms.length d2, .slice B3 t.ks[j].ks.length d3] _ S (okL_at HO.out hjk) (HKR.out.keep ?s1 (fun _ h => h)) ?s2 HLE.out).mono ?_
          case s1 => exact (SameOn.refl _ _).alloc HSR.out _
          case s2 => exact HSR.out.below ((Below.refl _ _).alloc (Nat.le_refl _) _)
          rintro e w1 ⟨rfl, hb1⟩
          have hz1 := hb1.size
          simp at hz1
          have HBW : Hid (Below wr.heap.size wr w1) := ((Below.refl wr.heap.size wr).alloc (Nat.le_refl _) _).trans (hb1.mono (by simp))
          clear hb1
          go_wp2_with (at_builtin; (refine wpList_append_row _ rfl _ _ 22 rfl (w.heap.size + 1) 9 i0 _ 1 16 Try.underlying22 hi iz0 iz1 iz2 rfl (by omega) v j (Strs (inF f t) j) rfl ?c1 (fun b => b = w1.heap.size) (.slice (some ⟨w1.heap.size, 0, none⟩) 1 1) 1 [.string (bs [46, 46, 46] ++ f t.ks[j])] rfl ?c2 ?c3 ?c4 ?c5 ?c6 ?_))
          case c1 => exact (own_below HOW.out HBW.out).alloc _
          case c2 => exact row_lit w1 _ 1 rfl (by unfold maxLen; omega)
          case c3 => intro u hu; simp at hu; subst hu; rfl
          case c4 => unfold maxLen; omega
          case c5 => omega
          case c6 => simp; omega
          intro v' w2 hown hg hnil hat
          have hst : w2.ownsRow (w.heap.size + 1) 9 1 v' (j + 1) (Strs (inF f t) (j + 1)) := by
            rw [Strs.succ, HIN.out]
            exact hown
          have HON := Lib.hid hst
          have hbn : Hid (Below (w.heap.size + 1) _ w2) := ((HBL.out.trans (HBW.out.mono (by omega))).alloc (by omega) _).grown hg (by simp; omega) (fun k hk => (HOW.out.lt k hk).1)
          clear hst hown hg hnil hat
          go_wp2_with fail
          go_roundg (m - (j + 1))
          case measure => omega
          case rel => exact ⟨j + 1, _, rfl, by omega, by go_num, rfl, HON, hbn⟩
      · have HIN : Hid (inF f t j = f t.ks[j]) := by unfold Hid inF; rw [T.kid_at hjk, if_neg (by rw [HM.out]; exact hvar)]
        rw [HIN.out] at hin
        have HLE : Hid ((f t.ks[j]).size ≤ Lim) := Nat.le_trans hin HB.out
        clear hin
        by_cases hfl : t.fl = true
        rotate_left
        · rw [Bool.not_eq_true] at hfl
          rw [hfl] at q3
          clear hvar hfl
          go_wp2_with fail
          refine (IH.out t.ks[j] (List.getElem_mem hjk) [.int .i64 t.ks[j].kd, .string t.ks[j].nm, .int .i64 t.ks[j].n, .bool t.ks[j].fl, .slice B1 t.ks[j].ns.length d1, .slice B2 t.ks[j].ms.length d2, .slice B3 t.ks[j].ks.length d3] _ S (okL_at HO.out hjk) (HKR.out.keep ?s1 (fun _ h => h)) ?s2 HLE.out).mono ?_
          case s1 => exact (SameOn.refl _ _).alloc HSR.out _
          case s2 => exact HSR.out.below ((Below.refl _ _).alloc (Nat.le_refl _) _)
          rintro e w1 ⟨rfl, hb1⟩
          have hz1 := hb1.size
          simp at hz1
          have HBW : Hid (Below wr.heap.size wr w1) := ((Below.refl wr.heap.size wr).alloc (Nat.le_refl _) _).trans (hb1.mono (by simp))
          clear hb1
          go_wp2_with (at_builtin; (refine wpList_append_row _ rfl _ _ 22 rfl (w.heap.size + 1) 9 i0 _ 1 16 Try.underlying22 hi iz0 iz1 iz2 rfl (by omega) v j (Strs (inF f t) j) rfl ?c1 (fun b => b = w1.heap.size) (.slice (some ⟨w1.heap.size, 0, none⟩) 1 1) 1 [.string (f t.ks[j])] rfl ?c2 ?c3 ?c4 ?c5 ?c6 ?_))
          case c1 => exact (own_below HOW.out HBW.out).alloc _
          case c2 => exact row_lit w1 _ 1 rfl (by unfold maxLen; omega)
          case c3 => intro u hu; simp at hu; subst hu; rfl
          case c4 => unfold maxLen; omega
          case c5 => omega
          case c6 => simp; omega
          intro v' w2 hown hg hnil hat
          have hst : w2.ownsRow (w.heap.size + 1) 9 1 v' (j + 1) (Strs (inF f t) (j + 1)) := by
            rw [Strs.succ, HIN.out]
            exact hown
          have HON := Lib.hid hst
          have hbn : Hid (Below (w.heap.size + 1) _ w2) := ((HBL.out.trans (HBW.out.mono (by omega))).alloc (by omega) _).grown hg (by simp; omega) (fun k hk => (HOW.out.lt k hk).1)
          clear hst hown hg hnil hat
          go_wp2_with fail
          go_roundg (m - (j + 1))
          case measure => omega
          case rel => exact ⟨j + 1, _, rfl, by omega, by go_num, rfl, HON, hbn⟩
        · have hj1 : ((j : Int) == (m : Int) - 1) = false := by
            have : ¬j + 1 = m := fun e => hvar ⟨hfl, e⟩
            simp; omega
          rw [hfl] at q3
          clear hvar hfl
          go_wp2_with fail
          refine (IH.out t.ks[j] (List.getElem_mem hjk) [.int .i64 t.ks[j].kd, .string t.ks[j].nm, .int .i64 t.ks[j].n, .bool t.ks[j].fl, .slice B1 t.ks[j].ns.length d1, .slice B2 t.ks[j].ms.length d2, .slice B3 t.ks[j].ks.length d3] _ S (okL_at HO.out hjk) (HKR.out.keep ?s1 (fun _ h => h)) ?s2 HLE.out).mono ?_
          case s1 => exact (SameOn.refl _ _).alloc HSR.out _
          case s2 => exact HSR.out.below ((Below.refl _ _).alloc (Nat.le_refl _) _)
          rintro e w1 ⟨rfl, hb1⟩
          have hz1 := hb1.size
          simp at hz1
          have HBW : Hid (Below wr.heap.size wr w1) := ((Below.refl wr.heap.size wr).alloc (Nat.le_refl _) _).trans (hb1.mono (by simp))
          clear hb1
          go_wp2_with (at_builtin; (refine wpList_append_row _ rfl _ _ 22 rfl (w.heap.size + 1) 9 i0 _ 1 16 Try.underlying22 hi iz0 iz1 iz2 rfl (by omega) v j (Strs (inF f t) j) rfl ?c1 (fun b => b = w1.heap.size) (.slice (some ⟨w1.heap.size, 0, none⟩) 1 1) 1 [.string (f t.ks[j])] rfl ?c2 ?c3 ?c4 ?c5 ?c6 ?_))
          case c1 => exact (own_below HOW.out HBW.out).alloc _
          case c2 => exact row_lit w1 _ 1 rfl (by unfold maxLen; omega)
          case c3 => intro u hu; simp at hu; subst hu; rfl
          case c4 => unfold maxLen; omega
          case c5 => omega
          case c6 => simp; omega
          intro v' w2 hown hg hnil hat
          have hst : w2.ownsRow (w.heap.size + 1) 9 1 v' (j + 1) (Strs (inF f t) (j + 1)) := by
            rw [Strs.succ, HIN.out]
            exact hown
          have HON := Lib.hid hst
          have hbn : Hid (Below (w.heap.size + 1) _ w2) := ((HBL.out.trans (HBW.out.mono (by omega))).alloc (by omega) _).grown hg (by simp; omega) (fun k hk => (HOW.out.lt k hk).1)
          clear hst hown hg hnil hat
          go_wp2_with fail
          go_roundg (m - (j + 1))
          case measure => omega
          case rel => exact ⟨j + 1, _, rfl, by omega, by go_num, rfl, HON, hbn⟩
    · obtain rfl : m = j := by omega
      have HL := Lib.hid (strs_row HOW.out)
      have HOL : Hid (Old (fun b => v.ownBlock = some b) wr) := fun b hb => (HOW.out.lt b hb).2
      obtain ⟨l, hl⟩ : ∃ l, (List.range m).map (inF f t) = l := ⟨_, rfl⟩
      have hll : l.length = m := by rw [← hl]; simp
      have hin : insF f t = bs [40] ++ joinB l (bs [44, 32]) ++ bs [41] := by unfold insF; rw [HM.out, hl]
      have hsz := ins_le_sig f t
      rw [hin, size_app, size_app, size_bs, size_bs] at hsz
      simp only [List.length_cons, List.length_nil] at hsz
      rw [hl] at HL
      have hJ : (joinB l (bs [44, 32])).size + 2 ≤ Lim := by have := HB.out; omega
      have HJ : Hid ((joinB l (bs [44, 32])).size ≤ Lim) := by unfold Hid; omega
      have HLL : Hid (l.length ≤ Lim) := by unfold Hid Lim; omega
      have HLM := Lib.hid hll
      have HIN := Lib.hid hin
      have hs1 : ¬9223372036854775807 < 1 + (joinB l (bs [44, 32])).size := by unfold Lim at hJ; omega
      have hs2 : ¬9223372036854775807 < 1 + (joinB l (bs [44, 32])).size + 1 := by unfold Lim at hJ; omega
      have HBX := Lib.hid ((Blk.new w 26 #[.int .i64 t.kd, .string t.nm, .int .i64 t.n, .bool t.fl, .slice A1 t.ns.length c1, .slice A2 t.ms.length c2, .slice A3 t.ks.length c3]).below HBL.out (by omega))
      clear q0 q1 q2 q3 q4 q5 q6 qf hl hll hin hsz hlt hj HOW
      go_wp2_with fail
      refine (join_any (sep := bs [44, 32]) (l := l) (by rw [HLM.out] at HL ⊢; exact HL.out) HOL.out HLL.out HJ.out).mono ?_
      rintro e w1 ⟨rfl, hb1⟩
      have hz1 := hb1.size
      obtain ⟨q0, q1, q2, q3, q4, q5, q6, qf⟩ := (HBX.out.below hb1 hzb).cells7
      have HBW : Hid (Below w.heap.size w w1) := (((Below.refl _ _).alloc (Nat.le_refl _) _).trans (HBL.out.mono (by omega))).trans (hb1.mono (by omega))
      have HSW : Hid (SameOn S w w1) := SameOn.of_below HBW.out HS.out
      have HOW : Hid (Old S w1) := HS.out.below HBW.out
      have HD := Lib.hid (((HK.out.keep HSW.out (fun _ h => h)).drop hml))
      obtain ⟨A4, hA4⟩ : ∃ A4, (if c3 = m then A3 else Option.map (fun x => x.add (m * 7)) A3) = A4 := ⟨_, rfl⟩
      rw [hA4] at HD
      obtain ⟨D, hD⟩ : ∃ D, t.ks.drop m = D := ⟨_, rfl⟩
      have hdl : t.ks.length - m = D.length := by rw [← hD, List.length_drop]
      rw [hD, hdl] at HD
      have HDM : Hid (∀ x ∈ D, x ∈ t.ks) := by intro x hx; rw [← hD] at hx; exact List.mem_of_mem_drop hx
      have HDD := Lib.hid hD
      have HDL : Hid (D.length * 112 ≤ Lim) := by
        have := (ok_kids HOT.out).2
        have e : D.length ≤ t.ks.length := by rw [← hD, List.length_drop]; omega
        unfold Hid; omega
      have hD' : t.ks.drop (arity t) = D := by rw [HM.out]; exact hD
      by_cases hd0 : D.length = 0
      · have hS := sig_0 (f := f) hD' hd0
        rw [HIN.out] at hS
        have HSG := Lib.hid hS
        have hk0 : ((D.length : Int) == 0) = true := by simpa using hd0
        clear hb1 hD HBX HL HOL HSW hD' hd0 hS
        go_wp2_with fail
        go_ret
        exact ⟨by rw [HSG.out]; rfl, HBW.out⟩
      have hk0 : ((D.length : Int) == 0) = false := by simpa using hd0
      have hdp : 0 < D.length := by omega
      by_cases hd1 : D.length = 1
      · have hS := sig_1 (f := f) hD' hd1 hdp
        have hle := HB.out
        rw [hS, size_app, size_app, size_bs, HIN.out, size_app, size_app, size_bs, size_bs] at hle
        simp only [List.length_cons, List.length_nil] at hle
        rw [HIN.out] at hS
        have HSG := Lib.hid hS
        have hk1 : ((D.length : Int) == 1) = true := by simp; omega
        obtain ⟨b, o, c, B1, d1, B2, d2, B3, d3, hv, hSb, ⟨g0, g1, g2, g3, g4, g5, g6⟩, hkr⟩ := HD.out.at_ hdp
        have hcl := HD.out.cap_le
        cases hv
        rw [if_neg (by omega)] at hA4
        simp only [Nat.zero_mul, Nat.add_zero] at g0 g1 g2 g3 g4 g5 g6
        have HKR := Lib.hid hkr
        have hs3 : ¬9223372036854775807 < 1 + (joinB l (bs [44, 32])).size + 1 + 1 := by unfold Lim at hle; omega
        have hs4 : ¬9223372036854775807 < 1 + (joinB l (bs [44, 32])).size + 1 + 1 + (f D[0]).size := by unfold Lim at hle; omega
        have HLE : Hid ((f D[0]).size ≤ Lim) := by unfold Hid; omega
        have HMM : Hid (D[0] ∈ t.ks) := HDM.out _ (List.getElem_mem hdp)
        clear hb1 hD HBX HL HOL HSW hD' hd0 hS hd1 hkr hle
        go_wp2_with fail
        refine (IH.out D[0] HMM.out [.int .i64 D[0].kd, .string D[0].nm, .int .i64 D[0].n, .bool D[0].fl, .slice B1 D[0].ns.length d1, .slice B2 D[0].ms.length d2, .slice B3 D[0].ks.length d3] _ S (okL_iff.1 HO.out _ HMM.out) HKR.out HOW.out HLE.out).mono ?_
        rintro e w2 ⟨rfl, hb2⟩
        have HBE : Hid (Below w.heap.size w w2) := HBW.out.trans (hb2.mono (by have := HBW.out.size; omega))
        clear hb2
        go_wp2_with fail
        go_ret
        exact ⟨by rw [HSG.out]; rfl, HBE.out⟩
      have hS := sig_2 (f := f) hD' (by omega)
      have hle := HB.out
      rw [hS, size_app, size_app, size_app, size_bs, size_bs, HIN.out, size_app, size_app, size_bs, size_bs] at hle
      simp only [List.length_cons, List.length_nil] at hle
      rw [HIN.out] at hS
      have HSG := Lib.hid hS
      have hk1 : ((D.length : Int) == 1) = false := by simp; omega
      have hs3 : ¬9223372036854775807 < 1 + (joinB l (bs [44, 32])).size + 1 + 2 := by unfold Lim at hle; omega
      have hs4 : ¬9223372036854775807 < 1 + (joinB l (bs [44, 32])).size + 1 + 2 + (joinF f D (bs [44, 32])).size := by unfold Lim at hle; omega
      have hs5 : ¬9223372036854775807 < 1 + (joinB l (bs [44, 32])).size + 1 + 2 + (joinF f D (bs [44, 32])).size + 1 := by unfold Lim at hle; omega
      have HLE : Hid ((joinF f D (bs [44, 32])).size ≤ Lim) := by unfold Hid; omega
      clear hb1 hD HBX HL HOL HSW hD' hd0 hS hd1 hle hdp
      go_wp2_with fail
      refine (join_calls (f := f) (sep := bs [44, 32]) (fun x hx => IH.out x (HDM.out x hx)) (okL_iff.2 fun x hx => okL_iff.1 HO.out x (HDM.out x hx)) HDL.out HD.out HOW.out HLE.out).mono ?_
      rintro e w2 ⟨rfl, hb2⟩
      have HBE : Hid (Below w.heap.size w w2) := HBW.out.trans (hb2.mono (by have := HBW.out.size; omega))
      clear hb2
      go_wp2_with fail
      go_ret
      exact ⟨by rw [HSG.out]; rfl, HBE.out⟩
end Go.Proofs.Ytanhdklaponekaa
