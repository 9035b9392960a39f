/- recastlaw6.TagsSets, TagsNothing: the walks. -/
import Derived.Test.YtendihbndpahdaaDoorTgAwake
namespace Go.Proofs.YtendihbndpahdaaDoor
open Go Go.RowKit Go.Sort Go.Lib

theorem enc_strs (l : List (List UInt8)) : ∀ u ∈ l.map encStr, ∃ s : ByteArray, u = .string s := fun u h => by
  obtain ⟨x, _, rfl⟩ := List.mem_map.1 h
  exact ⟨_, rfl⟩

set_option maxHeartbeats 4000000 in
set_option maxRecDepth 100000 in
theorem tagsSets_walk {w : World} {S : Nat → Prop} {v : Value} {l : List (List UInt8)} (hlim : l.length * 16 ≤ 140737488355328) (h : Row w S 1 v l.length (l.map encStr)) (hS : Old S w) :
    Calls Tryd.prog 3 #[v] w fun e w' => e = .returned (.bool true) ∧ Below w.heap.size w w' := by
  obtain ⟨A, cap, rfl, hlen⟩ := h.form
  have H := Lib.hid h
  have HS := Lib.hid hS
  have HLM := Lib.hid hlim
  clear h hS hlim
  obtain ⟨n, hn⟩ : ∃ n, l.length = n := ⟨_, rfl⟩
  have HN := Lib.hid hn
  rw [hn] at H hlen ⊢
  clear hn
  go_enter Tryd.func3, Tryd.ntmps3
  go_wp2_with fail
  refine (few_calls (enc_strs l) H.out).mono ?_
  rintro e w1 ⟨r, rfl, hw⟩
  subst w1
  cases r with
  | false =>
    go_wp2_with fail
    refine awake_calls.mono ?_
    rintro e w1 ⟨rfl, hb⟩
    have HB := Lib.hid hb
    clear hb
    go_wp2_with fail
    go_ret
    exact ⟨rfl, HB.out⟩
  | true =>
    by_cases h30 : 30 < n
    · have hd : decide ((30 : Int) < (n : Int)) = true := decide_eq_true (by omega)
      go_wp2_with fail
      refine awake_calls.mono ?_
      rintro e w1 ⟨rfl, hb⟩
      have HB := Lib.hid hb
      clear hb
      go_wp2_with fail
      go_ret
      exact ⟨rfl, HB.out⟩
    · have hd : decide ((30 : Int) < (n : Int)) = false := decide_eq_false (by omega)
      go_wp2_with fail
      have hcs := sets_calls (l := l) (w := w) HLM.out (by rw [HN.out]; exact H.out)
      refine hcs.mono ?_
      rintro e w1 ⟨u1, vs1, rfl, ho1, hs1, hb1⟩
      have HH1 : Hid (Row w1 S 1 (.slice A n cap) n (l.map encStr)) := H.out.keep (SameOn.of_below hb1 HS.out)
      have HS1 : Hid (Old S w1) := HS.out.below hb1
      obtain ⟨A1, c1, rfl⟩ := own_form ho1
      obtain ⟨m, hm⟩ : ∃ m, (setsOf l).length = m := ⟨_, rfl⟩
      have HM := Lib.hid hm
      have HO1 : Hid (w1.ownsRow w.heap.size 22 1 (.slice A1 m c1) m vs1) := by rw [← hm]; exact ho1
      have HT1 := Lib.hid hs1
      have HB1 := Lib.hid hb1
      rw [hm]
      clear ho1 hs1 hb1 hcs hm hd
      go_wp2_with fail
      have hcs := refSets_calls (l := l) (w := w1) HLM.out (by rw [HN.out]; exact HH1.out) HS1.out
      refine hcs.mono ?_
      rintro e w2 ⟨u2, vs2, rfl, ho2, hs2, hb2⟩
      have HO1' : Hid (w2.ownsRow w.heap.size 22 1 (.slice A1 m c1) m vs1) := own_below HO1.out hb2
      have HT1' : Hid (StrsL w2 (New w w1) (setsOf l) vs1) := HT1.out.keep (SameOn.of_below hb2 fun b hb => hb.2) fun _ hb => hb
      obtain ⟨A2, c2, rfl⟩ := own_form ho2
      have HO2 : Hid (w2.ownsRow w1.heap.size 22 1 (.slice A2 m c2) m vs2) := by rw [← HM.out]; exact ho2
      have HT2 := Lib.hid hs2
      have HB2 : Hid (Below w.heap.size w w2) := HB1.out.trans (hb2.mono HB1.out.size)
      have hmm : m ≤ 9223372036854775807 := by
        rcases HO1.out.2 with ⟨h0, _⟩ | ⟨_, _, _, h0, _, _, h3, h4, _⟩
        · cases h0; omega
        · cases h0; unfold maxLen at h4; omega
      rw [HM.out]
      clear ho2 hs2 hb2 hcs HO1 HT1 HH1 HS1
      go_wp2_with fail
      go_loopg [5] m (fun d i wr => ∃ (j q : Nat), d = m - j ∧ j ≤ m ∧ i = .int .i64 j ∧ wr = w2.drewN q)
      case atStart => exact ⟨0, 0, by simp, by omega, rfl, rfl⟩
      case round =>
        obtain ⟨j, q, rfl, hj, rfl, rfl⟩ := hrel
        by_cases hlt : j < m
        · have hjl : j < (setsOf l).length := by rw [HM.out]; exact hlt
          obtain ⟨g1, c1', hv1, -⟩ := HO1'.out.form (by omega)
          cases hv1
          obtain ⟨g2, c2', hv2, -⟩ := HO2.out.form (by omega)
          cases hv2
          obtain ⟨x1, hx1, R1⟩ := HT1'.out.at_ hjl
          obtain ⟨x2, hx2, R2⟩ := HT2.out.at_ hjl
          obtain ⟨y, hy⟩ : ∃ y, (setsOf l)[j] = y := ⟨_, rfl⟩
          rw [hy] at R1 R2
          clear hy
          have k1 : w2.cell? ⟨g1, j, none⟩ = some x1 := by rw [HO1'.out.cellAt j (by omega)]; exact hx1
          have k2 : w2.cell? ⟨g2, j, none⟩ = some x2 := by rw [HO2.out.cellAt j (by omega)]; exact hx2
          have hRR : Hid (∀ q1, Calls Tryd.prog 9 #[x1, x2] (w2.drewN (q + q1)) fun e w' => e = .returned (.bool true) ∧ ∃ q', w' = w2.drewN (q + q')) := fun q1 =>
            (texts_calls (enc_strs _) (Row.keep (w' := w2.drewN (q + q1)) R1 fun _ _ => rfl) (Row.keep (w' := w2.drewN (q + q1)) R2 fun _ _ => rfl)).mono fun _ _ ⟨he, q', hw⟩ => ⟨he, q1 + q', by rw [hw, World.drewN_drewN, Nat.add_assoc]⟩
          obtain ⟨B1, e1, rfl, -⟩ := Row.form R1
          obtain ⟨B2, e2, rfl, -⟩ := Row.form R2
          have hl1 : (j : Int) < (m : Int) := by omega
          generalize y.length = ny at *
          clear hx1 hx2 R1 R2 hjl
          go_wp2_with fail
          go_quiet ((go_at_call 9; exact hRR.out _))
          go_wp2_with fail
          go_roundg (m - (j + 1))
          case measure => omega
          case rel => exact ⟨j + 1, _, rfl, by omega, by go_num, rfl⟩
        · obtain rfl : j = m := by omega
          go_wp2_with fail
          refine awake_calls.mono ?_
          rintro e w5 ⟨rfl, hb⟩
          have HB5 : Hid (Below w.heap.size w w5) := (below_drewN HB2.out q).trans (hb.mono (below_drewN HB2.out q).size)
          clear hb
          go_wp2_with fail
          go_ret
          exact ⟨rfl, HB5.out⟩

set_option maxHeartbeats 8000000 in
set_option maxRecDepth 100000 in
theorem tagsNothing_walk {w : World} {S : Nat → Prop} {v : Value} {l : List (List UInt8)} {src : ByteArray} (hsrc : src.size ≤ 9223372036854775807) (h : Row w S 1 v l.length (l.map encStr)) :
    Calls Tryd.prog 4 #[v, .string src] w fun e w' => e = .returned (.bool true) ∧ Below w.heap.size w w' := by
  obtain ⟨A, cap, rfl, hlen⟩ := h.form
  have H := Lib.hid h
  clear h
  obtain ⟨n, hn⟩ : ∃ n, l.length = n := ⟨_, rfl⟩
  have HN := Lib.hid hn
  rw [hn] at H hlen ⊢
  clear hn
  go_enter Tryd.func4, Tryd.ntmps4
  go_wp2_with fail
  refine (few_calls (enc_strs l) H.out).mono ?_
  rintro e w1 ⟨r, rfl, hw⟩
  subst w1
  clear H
  have HAW : Hid (Calls Tryd.prog 6 #[] w fun e w' => e = .returned (.bool true) ∧ Below w.heap.size w w') := awake_calls
  cases r with
  | false =>
    go_wp2_with fail
    refine HAW.out.mono ?_
    rintro e w1 ⟨rfl, hb⟩
    have HB := Lib.hid hb
    clear hb
    go_wp2_with fail
    go_ret
    exact ⟨rfl, HB.out⟩
  | true =>
    by_cases h600 : 600 < src.size
    · have hd : decide ((600 : Int) < (src.size : Int)) = true := decide_eq_true (by omega)
      go_wp2_with fail
      refine HAW.out.mono ?_
      rintro e w1 ⟨rfl, hb⟩
      have HB := Lib.hid hb
      clear hb
      go_wp2_with fail
      go_ret
      exact ⟨rfl, HB.out⟩
    · have hd : decide ((600 : Int) < (src.size : Int)) = false := decide_eq_false (by omega)
      clear HAW
      have HZ0 := Lib.hid (Blk.new w 32 #[.nilIface])
      go_wp2_with fail
      refine holds_nil.mono ?_
      rintro e w1 ⟨rfl, hb1⟩
      have HZ1 : Hid (Blk w1 w.heap.size 32 #[.nilIface]) := HZ0.out.below hb1 HZ0.out.lt
      have HB1 : Hid (Below w.heap.size w w1) := ((Below.refl _ _).alloc (Nat.le_refl w.heap.size) _).trans (hb1.mono (by simp))
      clear hb1 HZ0
      go_wp2_with fail
      refine (holds_z HZ1.out).mono ?_
      rintro e w2 ⟨rfl, hb2⟩
      have HZ2 : Hid (Blk w2 w.heap.size 32 #[.nilIface]) := HZ1.out.below hb2 HZ1.out.lt
      have HB2 : Hid (Below w.heap.size w w2) := HB1.out.trans (hb2.mono HB1.out.size)
      clear hb2 HZ1 HB1
      go_wp2_with fail
      refine rtags_nil.mono ?_
      rintro e w3 ⟨A3, c3, rfl, hb3⟩
      have HZ3 : Hid (Blk w3 w.heap.size 32 #[.nilIface]) := HZ2.out.below hb3 HZ2.out.lt
      have HB3 : Hid (Below w.heap.size w w3) := HB2.out.trans (hb3.mono HB2.out.size)
      clear hb3 HZ2 HB2
      go_wp2_with fail
      refine text_nil.mono ?_
      rintro e w4 ⟨rfl, hb4⟩
      have HZ4 : Hid (Blk w4 w.heap.size 32 #[.nilIface]) := HZ3.out.below hb4 HZ3.out.lt
      have HB4 : Hid (Below w.heap.size w w4) := HB3.out.trans (hb4.mono HB3.out.size)
      clear hb4 HZ3 HB3
      go_wp2_with fail
      refine (text_z HZ4.out).mono ?_
      rintro e w5 ⟨rfl, hb5⟩
      have HZ5 : Hid (Blk w5 w.heap.size 32 #[.nilIface]) := HZ4.out.below hb5 HZ4.out.lt
      have HB5 : Hid (Below w.heap.size w w5) := HB4.out.trans (hb5.mono HB4.out.size)
      clear hb5 HZ4 HB4
      go_wp2_with fail
      refine (same_z HZ5.out).mono ?_
      rintro e w6 ⟨rfl, hb6⟩
      have HB6 : Hid (Below w.heap.size w w6) := HB5.out.trans (hb6.mono HB5.out.size)
      clear hb6 HZ5 HB5
      go_wp2_with fail
      refine awake_calls.mono ?_
      rintro e w7 ⟨rfl, hb7⟩
      have HB7 : Hid (Below w.heap.size w w7) := HB6.out.trans (hb7.mono HB6.out.size)
      clear hb7
      go_wp2_with fail
      go_ret
      exact ⟨rfl, HB7.out⟩
end Go.Proofs.YtendihbndpahdaaDoor
