/- recastref1.less, clash. -/
import Derived.Test.YtnonbonegbdfpaaSpSet
namespace Go.Proofs.Ytnonbonegbdfpaa
open Go Go.RowKit Go.Sort Go.Lib

def lsE (x y : Ed) : Bool := decide (ordE x y < 0)
theorem lsE_iff {x y : Ed} : lsE x y = true ↔ ltE x y := by unfold lsE ltE; exact decide_eq_true_iff
theorem less_law (x y : Ed) : lsE x y = (if (x.p.toList == y.p.toList) = true then (if (x.fr == y.fr) = true then (if (x.to == y.to) = true then Op.bytesLess x.tx.toList y.tx.toList else decide (x.to < y.to)) else decide (x.fr < y.fr)) else Op.bytesLess x.p.toList y.p.toList) := by
  have hi : ∀ a b : Int, cmpI a b = if a < b then -1 else if b < a then 1 else 0 := fun _ _ => rfl
  have hs : ∀ a b : ByteArray, cmpS a b = if Op.bytesLess a.toList b.toList = true then -1 else if (a.toList == b.toList) = true then 0 else 1 := fun _ _ => rfl
  have hl : ∀ a b : ByteArray, (a.toList == b.toList) = true → Op.bytesLess a.toList b.toList = false := fun a b h => by
    have e : a.toList = b.toList := by simpa using h
    rw [bytesLess_eq, e]; simp [List.lt_irrefl]
  unfold lsE ordE
  cases hp : (x.p.toList == y.p.toList) with
  | false =>
    rw [hs, hp]
    cases hb : Op.bytesLess x.p.toList y.p.toList <;> simp
  | true =>
    rw [hs x.p, hp, hl _ _ hp]
    simp only [Bool.false_eq_true, if_false, if_true]
    by_cases hf : x.fr = y.fr
    · have hc : cmpI x.fr y.fr = 0 := by rw [hi, if_neg (by omega), if_neg (by omega)]
      have e1 : (x.fr == y.fr) = true := by simpa using hf
      rw [hc, e1]
      by_cases ht : x.to = y.to
      · have hc2 : cmpI x.to y.to = 0 := by rw [hi, if_neg (by omega), if_neg (by omega)]
        have e2 : (x.to == y.to) = true := by simpa using ht
        rw [hc2, e2, hs]
        cases hb : Op.bytesLess x.tx.toList y.tx.toList with
        | true => simp
        | false => cases he : (x.tx.toList == y.tx.toList) <;> simp
      · have e2 : (x.to == y.to) = false := by simpa using ht
        rw [e2]
        by_cases h1 : x.to < y.to
        · have hc2 : cmpI x.to y.to = -1 := by rw [hi, if_pos h1]
          rw [hc2]; simp [h1]
        · have hc2 : cmpI x.to y.to = 1 := by rw [hi, if_neg h1, if_pos (by omega)]
          rw [hc2]; simp [h1]
    · have e1 : (x.fr == y.fr) = false := by simpa using hf
      rw [e1]
      by_cases h1 : x.fr < y.fr
      · have hc : cmpI x.fr y.fr = -1 := by rw [hi, if_pos h1]
        rw [hc]; simp [h1]
      · have hc : cmpI x.fr y.fr = 1 := by rw [hi, if_neg h1, if_pos (by omega)]
        rw [hc]; simp [h1]

set_option maxHeartbeats 1000000 in
theorem less_calls {x y : Ed} {w : World} : Calls Try.prog 29 #[.agg #[.string x.p, .int .i64 x.fr, .int .i64 x.to, .string x.tx], .agg #[.string y.p, .int .i64 y.fr, .int .i64 y.to, .string y.tx]] w fun e w' =>
    e = .returned (.bool (lsE x y)) ∧ Below w.heap.size w w' := by
  have hL := less_law x y
  obtain ⟨r, hr⟩ : ∃ r, lsE x y = r := ⟨_, rfl⟩
  rw [hr] at hL ⊢
  clear hr
  have HB : Hid (Below w.heap.size w ((w.alloc (.cells #[.string x.p, .int .i64 x.fr, .int .i64 x.to, .string x.tx] 33)).alloc (.cells #[.string y.p, .int .i64 y.fr, .int .i64 y.to, .string y.tx] 33))) :=
    ((Below.refl w.heap.size w).alloc (Nat.le_refl _) _).alloc (by simp) _
  cases hp : (x.p.toList == y.p.toList) with
  | false =>
    rw [hp] at hL
    have HF : Hid (r = Op.bytesLess x.p.toList y.p.toList) := hL
    clear hL
    go_enter Try.func29, Try.ntmps29
    go_wp2_with fail
    go_ret
    exact ⟨by rw [HF.out]; rfl, HB.out⟩
  | true =>
    rw [hp] at hL
    cases hf : (x.fr == y.fr) with
    | false =>
      rw [hf] at hL
      have HF : Hid (r = decide (x.fr < y.fr)) := hL
      clear hL
      go_enter Try.func29, Try.ntmps29
      go_wp2_with fail
      go_ret
      exact ⟨by rw [HF.out]; rfl, HB.out⟩
    | true =>
      rw [hf] at hL
      cases ht : (x.to == y.to) with
      | false =>
        rw [ht] at hL
        have HF : Hid (r = decide (x.to < y.to)) := hL
        clear hL
        go_enter Try.func29, Try.ntmps29
        go_wp2_with fail
        go_ret
        exact ⟨by rw [HF.out]; rfl, HB.out⟩
      | true =>
        rw [ht] at hL
        have HF : Hid (r = Op.bytesLess x.tx.toList y.tx.toList) := hL
        clear hL
        go_enter Try.func29, Try.ntmps29
        go_wp2_with fail
        go_ret
        exact ⟨by rw [HF.out]; rfl, HB.out⟩

theorem clash_law (x y : Ed) : clE x y = (if (x.fr == x.to) = true then (if (y.fr == y.to) = true then (x.fr == y.fr) else decide (y.fr ≤ x.fr) && decide (x.fr < y.to)) else (if (y.fr == y.to) = true then decide (x.fr ≤ y.fr) && decide (y.fr < x.to) else decide (x.fr < y.to) && decide (y.fr < x.to))) := by
  unfold clE
  by_cases h1 : x.fr = x.to <;> by_cases h2 : y.fr = y.to
  · rw [if_pos ⟨h1, h2⟩, if_pos (by simpa using h1), if_pos (by simpa using h2)]; rfl
  · rw [if_neg (fun h => h2 h.2), if_pos h1, if_pos (by simpa using h1), if_neg (by simpa using h2), ← Bool.decide_and]
  · rw [if_neg (fun h => h1 h.1), if_neg h1, if_pos h2, if_neg (by simpa using h1), if_pos (by simpa using h2), ← Bool.decide_and]
  · rw [if_neg (fun h => h1 h.1), if_neg h1, if_neg h2, if_neg (by simpa using h1), if_neg (by simpa using h2), ← Bool.decide_and]

set_option maxHeartbeats 1000000 in
theorem clash_calls {x y : Ed} {w : World} : Calls Try.prog 28 #[.agg #[.string x.p, .int .i64 x.fr, .int .i64 x.to, .string x.tx], .agg #[.string y.p, .int .i64 y.fr, .int .i64 y.to, .string y.tx]] w fun e w' =>
    e = .returned (.bool (clE x y)) ∧ Below w.heap.size w w' := by
  have hL := clash_law x y
  obtain ⟨r, hr⟩ : ∃ r, clE x y = r := ⟨_, rfl⟩
  rw [hr] at hL ⊢
  clear hr
  have HB : Hid (Below w.heap.size w ((w.alloc (.cells #[.string x.p, .int .i64 x.fr, .int .i64 x.to, .string x.tx] 33)).alloc (.cells #[.string y.p, .int .i64 y.fr, .int .i64 y.to, .string y.tx] 33))) :=
    ((Below.refl w.heap.size w).alloc (Nat.le_refl _) _).alloc (by simp) _
  cases h1 : (x.fr == x.to) with
  | true =>
    rw [h1] at hL
    cases h2 : (y.fr == y.to) with
    | true =>
      rw [h2] at hL
      have HF : Hid (r = (x.fr == y.fr)) := hL
      clear hL
      go_enter Try.func28, Try.ntmps28
      go_wp2_with fail
      go_ret
      exact ⟨by rw [HF.out]; rfl, HB.out⟩
    | false =>
      rw [h2] at hL
      by_cases h3 : y.fr ≤ x.fr
      · have HF : Hid (r = decide (x.fr < y.to)) := by unfold Hid; rw [hL]; simp [h3]
        have hd : decide (y.fr ≤ x.fr) = true := decide_eq_true h3
        clear hL
        go_enter Try.func28, Try.ntmps28
        go_wp2_with fail
        go_ret
        exact ⟨by rw [HF.out]; rfl, HB.out⟩
      · have HF : Hid (r = false) := by unfold Hid; rw [hL]; simp [h3]
        have hd : decide (y.fr ≤ x.fr) = false := decide_eq_false h3
        clear hL
        go_enter Try.func28, Try.ntmps28
        go_wp2_with fail
        go_ret
        exact ⟨by rw [HF.out]; rfl, HB.out⟩
  | false =>
    rw [h1] at hL
    cases h2 : (y.fr == y.to) with
    | true =>
      rw [h2] at hL
      by_cases h3 : x.fr ≤ y.fr
      · have HF : Hid (r = decide (y.fr < x.to)) := by unfold Hid; rw [hL]; simp [h3]
        have hd : decide (x.fr ≤ y.fr) = true := decide_eq_true h3
        clear hL
        go_enter Try.func28, Try.ntmps28
        go_wp2_with fail
        go_ret
        exact ⟨by rw [HF.out]; rfl, HB.out⟩
      · have HF : Hid (r = false) := by unfold Hid; rw [hL]; simp [h3]
        have hd : decide (x.fr ≤ y.fr) = false := decide_eq_false h3
        clear hL
        go_enter Try.func28, Try.ntmps28
        go_wp2_with fail
        go_ret
        exact ⟨by rw [HF.out]; rfl, HB.out⟩
    | false =>
      rw [h2] at hL
      by_cases h3 : x.fr < y.to
      · have HF : Hid (r = decide (y.fr < x.to)) := by unfold Hid; rw [hL]; simp [h3]
        have hd : decide (x.fr < y.to) = true := decide_eq_true h3
        clear hL
        go_enter Try.func28, Try.ntmps28
        go_wp2_with fail
        go_ret
        exact ⟨by rw [HF.out]; rfl, HB.out⟩
      · have HF : Hid (r = false) := by unfold Hid; rw [hL]; simp [h3]
        have hd : decide (x.fr < y.to) = false := decide_eq_false h3
        clear hL
        go_enter Try.func28, Try.ntmps28
        go_wp2_with fail
        go_ret
        exact ⟨by rw [HF.out]; rfl, HB.out⟩
end Go.Proofs.Ytnonbonegbdfpaa
