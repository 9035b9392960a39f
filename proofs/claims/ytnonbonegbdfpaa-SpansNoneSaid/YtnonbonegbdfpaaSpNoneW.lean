/- recastlaw1.SpansNone: the walk: true. -/
import Derived.Test.YtnonbonegbdfpaaSpNoneLaw
import Derived.Test.YtnonbonegbdfpaaSpAwake
import Derived.Deep.RegionHeld3
namespace Go.Proofs.Ytnonbonegbdfpaa
open Go Go.RowKit

theorem below_drewN1 {B : Nat} {a b : World} (h : Below B a.drew b) : Below B a b := ⟨h.os, h.tape, h.output, h.size, h.block⟩

set_option maxHeartbeats 4000000 in
set_option maxRecDepth 100000 in
theorem spansNone_walk {fs : List Fi} {v : Value} {a b : Int} {w : World} (h : Row w (fun b => b < w.heap.size) 2 v fs.length (flatF fs)) (hb : fs.length * 32 ≤ 140737488355328) (hp : ∀ f ∈ fs, f.p.size ≤ 140737488355328 ∧ f.tx.size ≤ 140737488355328) :
    Calls Try.prog 6 #[v, .int .i64 a, .int .i64 b] w fun e w' => e = .returned (.bool true) ∧ Below w.heap.size w w' := by
  have HA : Hid (∀ w, Calls Try.prog 11 #[] w fun e w' => e = .returned (.bool true) ∧ Below w.heap.size w w') := fun w => awake_calls
  obtain ⟨A, cap, rfl, hlen⟩ := h.form
  have H := Lib.hid h
  have HB := Lib.hid hb
  have HP := Lib.hid hp
  clear h hb hp
  go_enter Try.func6, Try.ntmps6
  go_wp2_with fail
  refine (fits_calls H.out HB.out HP.out).mono ?_
  rintro e w1 ⟨⟨rfl, hfit⟩ | rfl, hb1⟩
  case inr =>
    have hz1 := hb1.size
    go_wp2_with (go_at_call 11; refine (HA.out _).mono ?_; rintro e w' ⟨rfl, hb⟩)
    go_ret
    exact ⟨by simp, hb1.trans (hb.mono hz1)⟩
  have HFS : Hid (∀ f ∈ fs, f.p.size ≤ 6000 ∧ f.tx.size ≤ 6000) := by
    intro f hf
    obtain ⟨i, hi, rfl⟩ := List.getElem_of_mem hf
    have := fiS_at fs (j := fs.length) hi
    rw [fAt_at hi] at this
    omega
  have hz1 := hb1.size
  have HW1 := Lib.hid hb1
  clear hb1 hfit
  go_wp2_with fail
  go_loopg [7] fs.length (fun d i wr => ∃ (j : Nat), d = fs.length - j ∧ j ≤ fs.length ∧ i = .int .i64 j ∧ Hid (∀ i, i < j → ∀ k, k < i → (fAt fs k).p ≠ (fAt fs i).p) ∧ Hid (Below w.heap.size w wr))
  case atStart => exact ⟨0, by simp, by omega, rfl, fun i h => by omega, HW1.out⟩
  case round =>
    obtain ⟨j, rfl, hj, rfl, HU, HBW⟩ := hrel
    by_cases hlt : j < fs.length
    · go_wp2_with fail
      go_loopg [8] j (fun d i wq => ∃ (k q : Nat), d = j - k ∧ k ≤ j ∧ i = .int .i64 k ∧ Hid (∀ k', k' < k → (fAt fs k').p ≠ (fAt fs j).p) ∧ wq = wr.drewN q)
      case atStart => exact ⟨0, 0, by simp, by omega, rfl, fun k h => by omega, rfl⟩
      case round =>
        obtain ⟨k, q, rfl, hk, rfl, HK, rfl⟩ := hrel
        have HR1 : Hid (Row wr (fun b => b < w.heap.size) 2 (.slice A fs.length cap) fs.length (flatF fs)) := H.out.keep (SameOn.of_below HBW.out (fun b hb => hb))
        by_cases hkj : k < j
        · have hkl : k < fs.length := by omega
          obtain ⟨g, o, rfl, -, hnc, a0, a1⟩ := row_at2 HR1.out hlt rfl
          obtain ⟨g2, o2, e2, -, -, c0, c1⟩ := row_at2 HR1.out hkl rfl
          cases e2
          cases he : (fs[k].p.toList == fs[j].p.toList) with
          | true =>
            have hz := HBW.out.size
            go_wp2_with fail
            go_quiet (fail)
            go_wp2_with (go_at_call 11; refine (HA.out _).mono ?_; rintro e w' ⟨rfl, hb⟩)
            go_ret
            exact ⟨by simp, (below_drewN HBW.out _).trans (hb.mono (by simpa using hz))⟩
          | false =>
            have HNE : Hid ((fAt fs k).p ≠ (fAt fs j).p) := by
              unfold Hid
              rw [fAt_at hkl, fAt_at hlt]
              intro e
              rw [e] at he
              simp at he
            go_wp2_with fail
            go_quiet (fail)
            go_wp2_with fail
            go_roundg (j - (k + 1))
            case measure => omega
            case rel =>
              refine ⟨k + 1, _, rfl, by omega, by go_num, fun k' hk' => ?_, rfl⟩
              by_cases e : k' < k
              · exact HK.out k' e
              · obtain rfl : k' = k := by omega
                exact HNE.out
        · obtain rfl : k = j := by omega
          go_wp2_with fail
          go_roundg (fs.length - (k + 1))
          case measure => omega
          case rel =>
            refine ⟨k + 1, rfl, by omega, by go_num, fun i hi => ?_, below_drewN HBW.out _⟩
            by_cases e : i < k
            · exact HU.out i e
            · obtain rfl : i = k := by omega
              exact HK.out
    · obtain rfl : j = fs.length := by omega
      have HUQ : Hid (uniq fs) := fun i hi => look_uniq (HU.out i hi) i (Nat.le_refl _)
      have HR1 : Hid (Row wr (fun b => b < w.heap.size) 2 (.slice A fs.length cap) fs.length (flatF fs)) := H.out.keep (SameOn.of_below HBW.out (fun b hb => hb))
      have hz := HBW.out.size
      clear HU
      go_wp2_with fail
      refine (apply_ok (l := []) HR1.out (Row.nil_) (fun b hb => by omega) HB.out (by simp) (fun f hf => by have := (HFS.out f hf).1; unfold maxLen; omega) (by simp) (fun f hf => by have := (HFS.out f hf).2; simp [txS]; omega)).mono ?_
      rintro e w2 ⟨⟨gs, hgs, u, rfl, ho⟩ | ⟨hn, -⟩, hb2⟩
      case inr => rw [apply_none HUQ.out] at hn; cases hn
      rw [apply_none HUQ.out] at hgs
      cases hgs
      obtain ⟨B, c2, rfl⟩ := own_form ho
      have HG2 : Hid (Row w2 (fun _ => True) 2 (.slice B fs.length c2) fs.length (flatF fs)) := Row.of_own ho (fun _ _ => trivial)
      have HB2 : Hid (Below w.heap.size w w2) := HBW.out.trans (hb2.mono hz)
      have HR2 : Hid (Row w2 (fun b => b < w.heap.size) 2 (.slice A fs.length cap) fs.length (flatF fs)) := H.out.keep (SameOn.of_below HB2.out (fun b hb => hb))
      clear ho hb2 HR1 HBW
      go_wp2_with fail
      refine (files_calls HG2.out HR2.out).mono ?_
      rintro e w3 ⟨rfl, hb3⟩
      have HB3 : Hid (Below w.heap.size w w3) := HB2.out.trans (hb3.mono HB2.out.size)
      have HR3 : Hid (Row w3 (fun b => b < w.heap.size) 2 (.slice A fs.length cap) fs.length (flatF fs)) := H.out.keep (SameOn.of_below HB3.out (fun b hb => hb))
      have hz3 := HB3.out.size
      clear hb3 HG2 HR2 HB2
      rcases Nat.eq_zero_or_pos fs.length with hl0 | hl0
      · have hlI : (fs.length : Int) = 0 := by omega
        go_wp2_with (go_at_call 11; refine (HA.out _).mono ?_; rintro e w' ⟨rfl, hb⟩)
        all_goals (go_ret; exact ⟨by simp, HB3.out.trans (hb.mono hz3)⟩)
      have hlI : ¬(fs.length : Int) = 0 := by omega
      obtain ⟨g, o, rfl, -, hnc, a0, a1⟩ := row_at2 HR3.out hl0 rfl
      have hlP : 0 < (fs.length : Int) := by omega
      have hss := (HFS.out fs[0] (List.getElem_mem hl0)).2
      by_cases ca : a < 0
      · go_wp2_with (go_at_call 11; refine (HA.out _).mono ?_; rintro e w' ⟨rfl, hb⟩)
        all_goals (go_ret; exact ⟨by simp, HB3.out.trans (hb.mono hz3)⟩)
      by_cases cb : b < a
      · go_wp2_with (go_at_call 11; refine (HA.out _).mono ?_; rintro e w' ⟨rfl, hb⟩)
        all_goals (go_ret; exact ⟨by simp, HB3.out.trans (hb.mono hz3)⟩)
      by_cases cc : (fs[0].tx.size : Int) < b
      · go_wp2_with (go_at_call 11; refine (HA.out _).mono ?_; rintro e w' ⟨rfl, hb⟩)
        all_goals (go_ret; exact ⟨by simp, HB3.out.trans (hb.mono hz3)⟩)
      obtain ⟨m, rfl⟩ : ∃ m : Nat, a = m := ⟨a.toNat, by omega⟩
      obtain ⟨n, rfl⟩ : ∃ n : Nat, b = n := ⟨b.toNat, by omega⟩
      have hmn : m ≤ n := by omega
      have hns : n ≤ fs[0].tx.size := by omega
      have hms : m ≤ fs[0].tx.size := by omega
      have HAP : Hid (∀ (W : World) (q : Nat), Blk W q 33 #[.string fs[0].p, .int .i64 m, .int .i64 n, .string (fs[0].tx.extract m n)] → Row W (fun b => b < w.heap.size) 2 (.slice (some ⟨g, o, none⟩) fs.length cap) fs.length (flatF fs) → w.heap.size ≤ W.heap.size →
          Calls Try.prog 17 #[.slice (some ⟨g, o, none⟩) fs.length cap, .slice (some ⟨q, 0, none⟩) 1 1] W fun e w' => (∃ B c, e = .returned (.tuple #[.slice B fs.length c, .int .i64 0]) ∧ Hid (Row w' (fun _ => True) 2 (.slice B fs.length c) fs.length (flatF fs))) ∧ Below W.heap.size W w') := by
        intro W q hbk hrw hsz
        have hsm := apply_same HUQ.out hl0 hmn (by rw [fAt_at hl0]; exact hns)
        rw [fAt_at hl0] at hsm
        have hrow : Row W (fun b => b < W.heap.size) 4 (.slice (some ⟨q, 0, none⟩) 1 1) 1 (flat [⟨fs[0].p, m, n, fs[0].tx.extract m n⟩]) := row_blk hbk rfl (by decide) hbk.lt
        refine (apply_ok (fs := fs) (l := [⟨fs[0].p, m, n, fs[0].tx.extract m n⟩]) (hrw.more (fun b hb => Nat.lt_of_lt_of_le hb hsz)) hrow (fun b hb => hb) HB.out (by simp) (fun f hf => by have := (HFS.out f hf).1; unfold maxLen; omega)
          (fun x hx => by
            obtain rfl := List.mem_singleton.1 hx
            have := (HFS.out fs[0] (List.getElem_mem hl0)).1
            show fs[0].p.size ≤ maxLen
            unfold maxLen; omega)
          (fun f hf => by
            have := (HFS.out f hf).2
            have h2 : (fs[0].tx.extract m n).size ≤ 6000 := by rw [ByteArray.size_extract]; omega
            simp only [txS, List.map_cons, List.map_nil, List.sum_cons, List.sum_nil]
            omega)).mono ?_
        rintro e w2 ⟨⟨gs, hgs, u, rfl, ho⟩ | ⟨hn, -⟩, hb2⟩
        · rw [hsm] at hgs
          cases hgs
          obtain ⟨B, c2, rfl⟩ := own_form ho
          exact ⟨⟨B, c2, rfl, Row.of_own ho (fun _ _ => trivial)⟩, hb2⟩
        · rw [hsm] at hn; cases hn
      have HBK := Lib.hid (Blk.new w3 33 #[.string fs[0].p, .int .i64 m, .int .i64 n, .string (fs[0].tx.extract m n)])
      have HRK : Hid (Row (w3.alloc (.cells #[.string fs[0].p, .int .i64 m, .int .i64 n, .string (fs[0].tx.extract m n)] 33)) (fun b => b < w.heap.size) 2 (.slice (some ⟨g, o, none⟩) fs.length cap) fs.length (flatF fs)) := HR3.out.keep ((SameOn.refl _ w3).alloc (fun b hb => Nat.lt_of_lt_of_le hb hz3) _)
      have HBA : Hid (Below w.heap.size w (w3.alloc (.cells #[.string fs[0].p, .int .i64 m, .int .i64 n, .string (fs[0].tx.extract m n)] 33))) := HB3.out.alloc hz3 _
      simp only [Nat.zero_mul, Nat.add_zero] at a0 a1
      have hfn : ¬fs = [] := by rintro rfl; exact absurd hl0 (by simp)
      go_wp2_with fail
      · rename_i hx _ _ _ _
        exfalso
        rcases hx with ((hx | hx) | hx) | hx
        · have : (fs.length : Int) = 0 := by simpa using hx
          omega
        · omega
        · omega
        · omega
      refine wp_region_held_drew (S := fun w' => w'.cell? ⟨g, o, none⟩ = some (.string fs[0].p) ∧ w'.cell? ⟨g, o + 1, none⟩ = some (.string fs[0].tx)) (by kernel_rfl) ⟨a0, a1⟩ (fun hHeld => ?_)
      refine wpAnyH_take (i := 0) (v := ?_) rfl (by kernel_rfl) (by kernel_rfl) (by kernel_rfl) (fun _ _ _ h => h) (Or.inl ⟨by rfl, ?_⟩) (by assumption) ?_
      rotate_left
      · intro V hSw
        try dsimp only at hSw
        try simp only [List.getElem_toArray, List.getElem_cons_zero]
        go_simp
        first | done | rfl
      try simp only [Act.put, List.getElem_toArray, List.getElem_cons_zero, List.setIfInBounds_toArray, List.set_cons_zero, List.set_cons_succ]
      refine wpAnyH_take (i := 1) (v := ?_) rfl (by kernel_rfl) (by kernel_rfl) (by kernel_rfl) (fun _ _ _ h => h) (Or.inl ⟨by rfl, ?_⟩) (by assumption) ?_
      rotate_left
      · intro V hSw
        try dsimp only at hSw
        try simp only [List.getElem_toArray, List.getElem_cons_zero, List.getElem_cons_succ]
        go_simp
        first | done | rfl
      try simp only [Act.put, List.getElem_toArray, List.getElem_cons_zero, List.getElem_cons_succ, List.setIfInBounds_toArray, List.set_cons_zero, List.set_cons_succ]
      refine wpAnyH_take (i := 2) (v := ?_) rfl (by kernel_rfl) (by kernel_rfl) (by kernel_rfl) (fun _ _ _ h => h) (Or.inl ⟨by rfl, ?_⟩) (by assumption) ?_
      rotate_left
      · intro V hSw
        try dsimp only at hSw
        try simp only [List.getElem_toArray, List.getElem_cons_zero, List.getElem_cons_succ]
        go_simp
        first | done | rfl
      try simp only [Act.put, List.getElem_toArray, List.getElem_cons_zero, List.getElem_cons_succ, List.setIfInBounds_toArray, List.set_cons_zero, List.set_cons_succ]
      refine wpAnyH_take (i := 3) (v := ?_) rfl (by kernel_rfl) (by kernel_rfl) (by kernel_rfl) (fun _ _ _ h => h) (Or.inl ⟨by rfl, ?_⟩) (by assumption) ?_
      rotate_left
      · intro V hSw
        try dsimp only at hSw
        try simp only [List.getElem_toArray, List.getElem_cons_zero, List.getElem_cons_succ]
        go_simp
        first | done | rfl
      try simp only [Act.put, List.getElem_toArray, List.getElem_cons_zero, List.getElem_cons_succ, List.setIfInBounds_toArray, List.set_cons_zero, List.set_cons_succ]
      refine wpAnyH_take (i := 4) (v := ?_) rfl (by kernel_rfl) (by kernel_rfl) (by kernel_rfl) (fun _ _ _ h => h) (Or.inl ⟨by rfl, ?_⟩) (by assumption) ?_
      rotate_left
      · intro V hSw
        try dsimp only at hSw
        try simp only [List.getElem_toArray, List.getElem_cons_zero, List.getElem_cons_succ]
        go_simp
        first | done | rfl
      try simp only [Act.put, List.getElem_toArray, List.getElem_cons_zero, List.getElem_cons_succ, List.setIfInBounds_toArray, List.set_cons_zero, List.set_cons_succ]
      refine wpAnyH_take (i := 5) (v := ?_) rfl (by kernel_rfl) (by kernel_rfl) (by kernel_rfl) (fun _ _ _ h => h) (Or.inl ⟨by rfl, ?_⟩) (by assumption) ?_
      rotate_left
      · intro V hSw
        try dsimp only at hSw
        try simp only [List.getElem_toArray, List.getElem_cons_zero, List.getElem_cons_succ]
        go_simp
        first | done | rfl
      try simp only [Act.put, List.getElem_toArray, List.getElem_cons_zero, List.getElem_cons_succ, List.setIfInBounds_toArray, List.set_cons_zero, List.set_cons_succ]
      refine wpAnyH_take (i := 6) (v := ?_) rfl (by kernel_rfl) (by kernel_rfl) (by kernel_rfl) (fun _ _ _ h => h) (Or.inl ⟨by rfl, ?_⟩) (by assumption) ?_
      rotate_left
      · intro V hSw
        try dsimp only at hSw
        try simp only [List.getElem_toArray, List.getElem_cons_zero, List.getElem_cons_succ]
        go_simp
        first | done | rfl
      try simp only [Act.put, List.getElem_toArray, List.getElem_cons_zero, List.getElem_cons_succ, List.setIfInBounds_toArray, List.set_cons_zero, List.set_cons_succ]
      refine wpAnyH_take (i := 7) (v := ?_) rfl (by kernel_rfl) (by kernel_rfl) (by kernel_rfl) (fun _ _ _ h => h) (Or.inl ⟨by rfl, ?_⟩) (by assumption) ?_
      rotate_left
      · intro V hSw
        try dsimp only at hSw
        try simp only [List.getElem_toArray, List.getElem_cons_zero, List.getElem_cons_succ]
        go_simp
        first | done | rfl
      try simp only [Act.put, List.getElem_toArray, List.getElem_cons_zero, List.getElem_cons_succ, List.setIfInBounds_toArray, List.set_cons_zero, List.set_cons_succ]
      refine wpAnyH_take (i := 8) (v := ?_) rfl (by kernel_rfl) (by kernel_rfl) (by kernel_rfl) (fun _ _ _ h => h) (Or.inl ⟨by rfl, ?_⟩) (by assumption) ?_
      rotate_left
      · intro V hSw
        try dsimp only at hSw
        try simp only [List.getElem_toArray, List.getElem_cons_zero, List.getElem_cons_succ]
        go_simp
        first | done | rfl
      try simp only [Act.put, List.getElem_toArray, List.getElem_cons_zero, List.getElem_cons_succ, List.setIfInBounds_toArray, List.set_cons_zero, List.set_cons_succ]
      refine wpAnyH_take (i := 9) (v := ?_) rfl (by kernel_rfl) (by kernel_rfl) (by kernel_rfl) (fun _ _ _ h => h) (Or.inl ⟨by rfl, ?_⟩) (by assumption) ?_
      rotate_left
      · intro V hSw
        try dsimp only at hSw
        try simp only [List.getElem_toArray, List.getElem_cons_zero, List.getElem_cons_succ]
        go_simp
        first | done | rfl
      try simp only [Act.put, List.getElem_toArray, List.getElem_cons_zero, List.getElem_cons_succ, List.setIfInBounds_toArray, List.set_cons_zero, List.set_cons_succ]
      refine wpAnyH_take (i := 10) (v := ?_) rfl (by kernel_rfl) (by kernel_rfl) (by kernel_rfl) (fun _ _ _ h => h) (Or.inl ⟨by rfl, ?_⟩) (by assumption) ?_
      rotate_left
      · intro V hSw
        try dsimp only at hSw
        try simp only [List.getElem_toArray, List.getElem_cons_zero, List.getElem_cons_succ]
        go_simp
        first | done | rfl
      try simp only [Act.put, List.getElem_toArray, List.getElem_cons_zero, List.getElem_cons_succ, List.setIfInBounds_toArray, List.set_cons_zero, List.set_cons_succ]
      refine wpAnyH_take (i := 11) (v := ?_) rfl (by kernel_rfl) (by kernel_rfl) (by kernel_rfl) (fun _ _ _ h => h) (Or.inl ⟨by rfl, ?_⟩) (by assumption) ?_
      rotate_left
      · intro V hSw
        try dsimp only at hSw
        try simp only [List.getElem_toArray, List.getElem_cons_zero, List.getElem_cons_succ]
        go_simp
        first | done | rfl
      try simp only [Act.put, List.getElem_toArray, List.getElem_cons_zero, List.getElem_cons_succ, List.setIfInBounds_toArray, List.set_cons_zero, List.set_cons_succ]
      refine wpAnyH_take (i := 12) (v := ?_) rfl (by kernel_rfl) (by kernel_rfl) (by kernel_rfl) (fun _ _ _ h => h) (Or.inl ⟨by rfl, ?_⟩) (by assumption) ?_
      rotate_left
      · intro V hSw
        try dsimp only at hSw
        try simp only [List.getElem_toArray, List.getElem_cons_zero, List.getElem_cons_succ]
        go_simp
        first | done | rfl
      try simp only [Act.put, List.getElem_toArray, List.getElem_cons_zero, List.getElem_cons_succ, List.setIfInBounds_toArray, List.set_cons_zero, List.set_cons_succ]
      refine wpAnyH_take (i := 13) (v := ?_) rfl (by kernel_rfl) (by kernel_rfl) (by kernel_rfl) (fun _ _ _ h => h) (Or.inl ⟨by rfl, ?_⟩) (by assumption) ?_
      rotate_left
      · intro V hSw
        try dsimp only at hSw
        try simp only [List.getElem_toArray, List.getElem_cons_zero, List.getElem_cons_succ]
        go_simp
        first | done | rfl
      try simp only [Act.put, List.getElem_toArray, List.getElem_cons_zero, List.getElem_cons_succ, List.setIfInBounds_toArray, List.set_cons_zero, List.set_cons_succ]
      refine wpAnyH_take (i := 14) (v := ?_) rfl (by kernel_rfl) (by kernel_rfl) (by kernel_rfl) (fun _ _ _ h => h) (Or.inl ⟨by rfl, ?_⟩) (by assumption) ?_
      rotate_left
      · intro V hSw
        try dsimp only at hSw
        try simp only [List.getElem_toArray, List.getElem_cons_zero, List.getElem_cons_succ]
        go_simp
        first | done | rfl
      try simp only [Act.put, List.getElem_toArray, List.getElem_cons_zero, List.getElem_cons_succ, List.setIfInBounds_toArray, List.set_cons_zero, List.set_cons_succ]
      refine wpAnyH_ready (rs := [15]) (by kernel_rfl) (by simp) ?_
      refine AllReadyH.cons rfl (fun K hK => ?_) AllReadyH.nil
      try simp only [List.getElem_toArray, List.getElem_cons_zero, List.getElem_cons_succ]
      go_simp
      have k0 := (World.cell?_alloc_some w3 ⟨g, o, none⟩ (.cells #[.string fs[0].p, .int .i64 m, .int .i64 n, .string (fs[0].tx.extract m n)] 33) (by rw [a0]; rfl)).trans a0
      have k1 := (World.cell?_alloc_some w3 ⟨g, o + 1, none⟩ (.cells #[.string fs[0].p, .int .i64 m, .int .i64 n, .string (fs[0].tx.extract m n)] 33) (by rw [a1]; rfl)).trans a1
      refine hK.out _ _ ⟨k0, k1⟩ (fun hHeld => ?_)
      clear hK K
      try simp only [Act.put, List.getElem_toArray, List.getElem_cons_zero, List.getElem_cons_succ, List.setIfInBounds_toArray, List.set_cons_zero, List.set_cons_succ]
      refine wpAnyH_ready (rs := [16]) (by kernel_rfl) (by simp) ?_
      refine AllReadyH.cons rfl (fun K hK => ?_) AllReadyH.nil
      try simp only [List.getElem_toArray, List.getElem_cons_zero, List.getElem_cons_succ]
      go_simp
      have hrkd : Row (World.drew (w3.alloc (.cells #[.string fs[0].p, .int .i64 m, .int .i64 n, .string (fs[0].tx.extract m n)] 33))) (fun b => b < w.heap.size) 2 (.slice (some ⟨g, o, none⟩) fs.length cap) fs.length (flatF fs) := HRK.out
      refine (HAP.out _ _ HBK.out.drew hrkd (by have := HBA.out.size; simpa using this)).mono ?_
      rintro e w5 ⟨⟨B5, c5, rfl, hg5⟩, hb5⟩
      clear hrkd
      have HBA5 : Hid (Below w.heap.size w w5) := HBA.out.trans (Below.mono (below_drewN1 hb5) HBA.out.size)
      have HR5 : Hid (Row w5 (fun b => b < w.heap.size) 2 (.slice (some ⟨g, o, none⟩) fs.length cap) fs.length (flatF fs)) := H.out.keep (SameOn.of_below HBA5.out (fun b hb => hb))
      obtain ⟨g9, o9, e9, -, -, z0, z1⟩ := row_at2 HR5.out hl0 rfl
      cases e9
      simp only [Nat.zero_mul, Nat.add_zero] at z0 z1
      first | (go_wp2_with fail; done) | skip
      refine hK.out _ _ ⟨z0, z1⟩ (fun hHeld => ?_)
      clear hK K
      try simp only [Act.put, List.getElem_toArray, List.getElem_cons_zero, List.getElem_cons_succ, List.setIfInBounds_toArray, List.set_cons_zero, List.set_cons_succ]
      refine wpAnyH_take (i := 17) (v := ?_) rfl (by kernel_rfl) (by kernel_rfl) (by kernel_rfl) (fun _ _ _ h => h) (Or.inl ⟨by rfl, ?_⟩) (by assumption) ?_
      rotate_left
      · intro V hSw
        try dsimp only at hSw
        try simp only [List.getElem_toArray, List.getElem_cons_zero, List.getElem_cons_succ]
        go_simp
        first | done | rfl
      try simp only [Act.put, List.getElem_toArray, List.getElem_cons_zero, List.getElem_cons_succ, List.setIfInBounds_toArray, List.set_cons_zero, List.set_cons_succ]
      refine wpAnyH_take (i := 18) (v := ?_) rfl (by kernel_rfl) (by kernel_rfl) (by kernel_rfl) (fun _ _ _ h => h) (Or.inl ⟨by rfl, ?_⟩) (by assumption) ?_
      rotate_left
      · intro V hSw
        try dsimp only at hSw
        try simp only [List.getElem_toArray, List.getElem_cons_zero, List.getElem_cons_succ]
        go_simp
        first | done | rfl
      try simp only [Act.put, List.getElem_toArray, List.getElem_cons_zero, List.getElem_cons_succ, List.setIfInBounds_toArray, List.set_cons_zero, List.set_cons_succ]
      refine wpAnyH_take (i := 19) (v := ?_) rfl (by kernel_rfl) (by kernel_rfl) (by kernel_rfl) (fun _ _ _ h => h) (Or.inl ⟨by rfl, ?_⟩) (by assumption) ?_
      rotate_left
      · intro V hSw
        try dsimp only at hSw
        try simp only [List.getElem_toArray, List.getElem_cons_zero, List.getElem_cons_succ]
        go_simp
        first | done | rfl
      try simp only [Act.put, List.getElem_toArray, List.getElem_cons_zero, List.getElem_cons_succ, List.setIfInBounds_toArray, List.set_cons_zero, List.set_cons_succ]
      refine wpAnyH_take (i := 20) (v := ?_) rfl (by kernel_rfl) (by kernel_rfl) (by kernel_rfl) (fun _ _ _ h => h) (Or.inl ⟨by rfl, ?_⟩) (by assumption) ?_
      rotate_left
      · intro V hSw
        try dsimp only at hSw
        try simp only [List.getElem_toArray, List.getElem_cons_zero, List.getElem_cons_succ]
        go_simp
        first | done | rfl
      try simp only [Act.put, List.getElem_toArray, List.getElem_cons_zero, List.getElem_cons_succ, List.setIfInBounds_toArray, List.set_cons_zero, List.set_cons_succ]
      refine wpAnyH_take (i := 21) (v := ?_) rfl (by kernel_rfl) (by kernel_rfl) (by kernel_rfl) (fun _ _ _ h => h) (Or.inl ⟨by rfl, ?_⟩) (by assumption) ?_
      rotate_left
      · intro V hSw
        try dsimp only at hSw
        try simp only [List.getElem_toArray, List.getElem_cons_zero, List.getElem_cons_succ]
        go_simp
        first | done | rfl
      try simp only [Act.put, List.getElem_toArray, List.getElem_cons_zero, List.getElem_cons_succ, List.setIfInBounds_toArray, List.set_cons_zero, List.set_cons_succ]
      refine wpAnyH_done (by kernel_rfl) ?_ _
      have hz5 := HBA5.out.size
      go_wp2_with (first
        | (go_at_call 19; refine (files_calls hg5.out HR5.out).mono ?_; rintro e w6 ⟨rfl, hb6⟩)
        | (go_at_call 11; refine (HA.out _).mono ?_; rintro e w7 ⟨rfl, hb7⟩))
      go_ret
      exact ⟨by simp, HBA5.out.trans ((hb6.mono hz5).trans (hb7.mono (Nat.le_trans hz5 hb6.size)))⟩
end Go.Proofs.Ytnonbonegbdfpaa
