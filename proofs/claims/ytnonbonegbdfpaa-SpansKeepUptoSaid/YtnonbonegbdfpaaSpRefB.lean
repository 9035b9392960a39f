/- recastref1.Sorted: what it computes: as spans.Sorted. -/
import Derived.Test.YtnonbonegbdfpaaSpRefA
import Derived.Test.YtnonbonegbdfpaaSpMuch
import Derived.Test.YtnonbonegbdfpaaSpRound
import Derived.Deep.RegionHeld3
import Derived.Deep.CutRange
namespace Go.Proofs.Ytnonbonegbdfpaa
open Go Go.RowKit

theorem below_drewI {B : Nat} {a b : World} (h : Below B a.drew b) : Below B a b := ⟨h.os, h.tape, h.output, h.size, h.block⟩
theorem below_drewO {a b : World} (h : Below a.drew.heap.size a.drew b) : Below a.heap.size a b := below_drewI h

/-- x's own box, and the row so far -/
structure Mid (w wq : World) (gx : Nat) (x : Ed) (u : Value) (out : List Ed) : Prop where
  blk : Blk wq gx 33 #[.string x.p, .int .i64 x.fr, .int .i64 x.to, .string x.tx]
  own : wq.ownsRow w.heap.size 33 4 u out.length (flat out)
  below : Below w.heap.size w wq
theorem Mid.go {w wq w' : World} {gx : Nat} {x : Ed} {u : Value} {out : List Ed} (h : Mid w wq gx x u out) (hb : Below wq.heap.size wq w') : Mid w w' gx x u out :=
  ⟨h.blk.below hb h.blk.lt, own_below h.own hb, h.below.trans (hb.mono h.below.size)⟩
theorem Mid.drewN {w wq : World} {gx : Nat} {x : Ed} {u : Value} {out : List Ed} (h : Mid w wq gx x u out) (q : Nat) : Mid w (wq.drewN q) gx x u out := h.go (below_drewN (Below.refl _ _) q)
theorem Mid.cells {w wq : World} {gx : Nat} {x : Ed} {u : Value} {out : List Ed} (h : Mid w wq gx x u out) :
    wq.cell? ⟨gx, 0, none⟩ = some (.string x.p) ∧ wq.cell? ⟨gx, 1, none⟩ = some (.int .i64 x.fr) ∧ wq.cell? ⟨gx, 2, none⟩ = some (.int .i64 x.to) ∧ wq.cell? ⟨gx, 3, none⟩ = some (.string x.tx) :=
  ⟨by simpa using h.blk.cell 0, by simpa using h.blk.cell 1, by simpa using h.blk.cell 2, by simpa using h.blk.cell 3⟩
theorem Mid.start {w wr : World} {x : Ed} {u : Value} {out : List Ed} (ho : wr.ownsRow w.heap.size 33 4 u out.length (flat out)) (hb : Below w.heap.size w wr) :
    Mid w (wr.alloc (.cells #[.string x.p, .int .i64 x.fr, .int .i64 x.to, .string x.tx] 33)) wr.heap.size x u out :=
  ⟨Blk.new wr _ _, own_below ho ((Below.refl _ _).alloc (Nat.le_refl _) _), hb.alloc hb.size _⟩

def insK (out : List Ed) (x : Ed) (k : Nat) : List Ed := out.take k ++ x :: out.drop k
theorem insK_len {out : List Ed} {x : Ed} {k : Nat} (h : k ≤ out.length) : (insK out x k).length = out.length + 1 := by
  simp only [insK, List.length_append, List.length_cons, List.length_take, List.length_drop]; omega
theorem insK_self {out : List Ed} {x : Ed} {k : Nat} (h : k ≤ out.length) : (insK out x k)[k]'(by rw [insK_len h]; omega) = x := by
  simp only [insK]
  rw [List.getElem_append_right (by rw [List.length_take]; omega)]
  simp [List.length_take, Nat.min_eq_left h]
theorem insK_lt {out : List Ed} {x : Ed} {k m : Nat} (h : k ≤ out.length) (hm : m < k) : (insK out x k)[m]'(by rw [insK_len h]; omega) = out[m] := by
  simp only [insK]
  rw [List.getElem_append_left (by rw [List.length_take]; omega), List.getElem_take]
theorem insK_swap : ∀ {out : List Ed} {x : Ed} {m : Nat} (h : m < out.length), ((insK out x (m + 1)).set (m + 1) out[m]).set m x = insK out x m
  | o :: out, x, 0, _ => rfl
  | o :: out, x, m + 1, h => by
    have := insK_swap (out := out) (x := x) (m := m) (by simpa using h)
    simp only [insK] at this ⊢
    simp only [List.take_succ_cons, List.drop_succ_cons, List.cons_append, List.set_cons_succ, List.getElem_cons_succ]
    rw [this]
theorem insK_end (out : List Ed) (x : Ed) : insK out x out.length = out ++ [x] := by simp [insK]

/-- between the two stores of a swap -/
structure SwapA (w W : World) (g gw c2 n : Nat) (x : Ed) (cur : List Ed) : Prop where
  own : W.ownsRow w.heap.size 33 4 (.slice (some ⟨g, 0, none⟩) n c2) n (flat cur)
  below : Below w.heap.size w W
  blk : Blk W gw 33 #[.string x.p, .int .i64 x.fr, .int .i64 x.to, .string x.tx]
  ne : g ≠ gw
theorem swap_a {w w5 : World} {g n c2 k : Nat} {cur : List Ed} {x y : Ed} (ho : w5.ownsRow w.heap.size 33 4 (.slice (some ⟨g, 0, none⟩) n c2) n (flat cur)) (hb : Below w.heap.size w w5) (hk : k < cur.length) :
    Hid (SwapA w ((((((w5).setCell ⟨g, k * 4, none⟩ (.string y.p)).setCell ⟨g, k * 4 + 1, none⟩ (.int .i64 y.fr)).setCell ⟨g, k * 4 + 2, none⟩ (.int .i64 y.to)).setCell ⟨g, k * 4 + 3, none⟩ (.string y.tx)).alloc (.cells #[.string x.p, .int .i64 x.fr, .int .i64 x.to, .string x.tx] 33)) g w5.heap.size c2 n x (cur.set k y)) := by
  have hg := ho.lt g rfl
  have b7 : Below w.heap.size w (((((w5).setCell ⟨g, k * 4, none⟩ (.string y.p)).setCell ⟨g, k * 4 + 1, none⟩ (.int .i64 y.fr)).setCell ⟨g, k * 4 + 2, none⟩ (.int .i64 y.to)).setCell ⟨g, k * 4 + 3, none⟩ (.string y.tx)) := (((hb.setCell hg.1 _).setCell hg.1 _).setCell hg.1 _).setCell hg.1 _
  refine ⟨own_below (own_set4 ho y hk) ((Below.refl _ _).alloc (Nat.le_refl _) _), b7.alloc b7.size _, ?_, by omega⟩
  have := Blk.new (((((w5).setCell ⟨g, k * 4, none⟩ (.string y.p)).setCell ⟨g, k * 4 + 1, none⟩ (.int .i64 y.fr)).setCell ⟨g, k * 4 + 2, none⟩ (.int .i64 y.to)).setCell ⟨g, k * 4 + 3, none⟩ (.string y.tx)) 33 #[.string x.p, .int .i64 x.fr, .int .i64 x.to, .string x.tx]
  simpa using this

set_option maxHeartbeats 8000000 in
set_option maxRecDepth 100000 in
theorem refSorted_calls {l : List Ed} {v : Value} {w : World} {S : Nat → Prop} (hlim : l.length * 48 ≤ 140737488355328) (h : Row w S 4 v l.length (flat l)) (hS : Old S w) :
    Calls Try.prog 14 #[v] w (SortedRes l w) := by
  obtain ⟨i0, hi, iz0, iz1, iz2⟩ := info_parts info_edits
  obtain ⟨A, cap, rfl, hlen⟩ := h.form
  have H := Lib.hid h
  have HS := Lib.hid hS
  have hgd := ed_guard
  have hlm : l.length ≤ 2932031007402 := by omega
  have HRES : ∀ e W', SortedRes l w e W' → SortedRes l w e W' := fun _ _ h => h
  have HR := Lib.hid HRES
  clear h hS HRES hlim
  go_enter Try.func14, Try.ntmps14
  go_wp2_with fail
  go_loopg [4, 5] l.length (fun d u iv wr => ∃ (i : Nat) (out : List Ed), d = l.length - i ∧ i ≤ l.length ∧ iv = .int .i64 i ∧ Hid (wr.ownsRow w.heap.size 33 4 u out.length (flat out)) ∧ Hid (RefI l i out) ∧ Hid (Below w.heap.size w wr))
  case atStart => exact ⟨0, [], by simp, by omega, rfl, World.ownsRow_nil _ _ _ _, RefI.start l, Below.refl _ _⟩
  case round =>
    obtain ⟨i, out, rfl, hil, rfl, HO, HI, HBW⟩ := hrel
    rename World => wo
    obtain ⟨B, b, rfl⟩ := own_form HO.out
    have hzr := HBW.out.size
    have hol : out.length ≤ i := HI.out.len
    by_cases hlt : i < l.length
    · have HRW : Hid (Row wo S 4 (.slice A l.length cap) l.length (flat l)) := H.out.keep (SameOn.of_below HBW.out HS.out)
      obtain ⟨g0, o0, rfl, -, hnc, a0, a1, a2, a3⟩ := row_at4 HRW.out hlt rfl
      obtain ⟨x, hx⟩ : ∃ x, l[i] = x := ⟨_, rfl⟩
      rw [hx] at a0 a1 a2 a3
      have HX := Lib.hid hx
      have HM0 : Hid (Mid w (wo.alloc (.cells #[.string x.p, .int .i64 x.fr, .int .i64 x.to, .string x.tx] 33)) wo.heap.size x (.slice B out.length b) out) := Mid.start HO.out HBW.out
      clear hx HRW
      by_cases hv1 : x.fr < 0
      · have HBAD : Hid (okAll (sortd l) = false) := HI.out.bad hlt (by rw [HX.out]; unfold validE; omega)
        have hd : decide (x.fr < 0) = true := decide_eq_true hv1
        go_wp2_with fail
        go_ret2
        exact HR.out _ _ ⟨.inr ⟨HBAD.out, rfl⟩, HM0.out.below⟩
      have hd1 : decide (x.fr < 0) = false := decide_eq_false hv1
      by_cases hv2 : x.to < x.fr
      · have HBAD : Hid (okAll (sortd l) = false) := HI.out.bad hlt (by rw [HX.out]; unfold validE; omega)
        have hd : decide (x.to < x.fr) = true := decide_eq_true hv2
        go_wp2_with fail
        go_ret2
        exact HR.out _ _ ⟨.inr ⟨HBAD.out, rfl⟩, HM0.out.below⟩
      have hd2 : decide (x.to < x.fr) = false := decide_eq_false hv2
      have HV : Hid (validE l[i]) := by unfold Hid; rw [HX.out]; unfold validE; omega
      clear hv1 hv2
      go_wp2_with fail
      go_loopg [7, 8] out.length (fun d tv kv wq => ∃ (k : Nat) (tw : Bool), d = out.length - k ∧ k ≤ out.length ∧ kv = .int .i64 k ∧ tv = .bool tw ∧ Hid (tw = true ↔ x ∈ out.take k) ∧ Hid (Mid w wq wo.heap.size x (.slice B out.length b) out))
      case atStart => exact ⟨0, false, by simp, by omega, rfl, rfl, (by unfold Hid; simp), HM0.out⟩
      case round =>
        clear HM0 a0 a1 a2 a3 hd1 hd2
        obtain ⟨k, tw, rfl, hk, rfl, rfl, HTW, HM⟩ := hrel
        by_cases hkl : k < out.length
        · obtain ⟨g, cp, hv, -⟩ := HM.out.own.form (by omega)
          cases hv
          obtain ⟨c0, c1, c2, c3⟩ := own_at4 HM.out.own hkl rfl
          obtain ⟨x0, x1, x2, x3⟩ := HM.out.cells
          have HT1 : ∀ tw2 : Bool, (tw2 = true ↔ (tw = true ∨ out[k] = x)) → Hid (tw2 = true ↔ x ∈ out.take (k + 1)) := fun tw2 h2 => by
            unfold Hid
            rw [List.take_succ_eq_append_getElem hkl, List.mem_append, List.mem_singleton, h2, HTW.out]
            exact ⟨fun h => h.imp id Eq.symm, fun h => h.imp id Eq.symm⟩
          cases tw with
          | true =>
            have HT2 := HT1 true (by simp)
            clear HT1 HTW
            go_wp2_with fail
            go_quiet (fail)
            go_wp2_with fail
            go_roundg (out.length - (k + 1))
            case measure => omega
            case rel => exact ⟨k + 1, true, rfl, by omega, by go_num, rfl, (by unfold Hid at HT2 ⊢; simpa using HT2), HM.out.drewN _⟩
          | false =>
            have heq := ed_eql out[k] x
            have HT2 := HT1 (eqE out[k] x) (by rw [eqE_iff]; simp)
            clear HT1 HTW
            generalize eqE out[k] x = r at heq HT2
            go_wp2_with fail
            go_quiet (fail)
            go_wp2_with fail
            go_roundg (out.length - (k + 1))
            case measure => omega
            case rel => exact ⟨k + 1, r, rfl, by omega, by go_num, by simp, HT2, HM.out.drewN _⟩
        · obtain rfl : k = out.length := by omega
          have HTW' : Hid (tw = true ↔ x ∈ out) := by have := HTW.out; rw [List.take_length] at this; exact this
          clear HTW
          cases tw with
          | true =>
            have HI2 : Hid (RefI l (i + 1) out) := HI.out.twice hlt (by rw [HX.out]; exact HTW'.out.1 rfl)
            go_wp2_with fail
            go_roundg (l.length - (i + 1))
            case measure => omega
            case rel => exact ⟨i + 1, out, rfl, by omega, by go_num, HM.out.own, HI2.out, HM.out.below⟩
          | false =>
            have HNI : Hid (l[i] ∉ out) := fun hm => by rw [HX.out] at hm; exact absurd (HTW'.out.2 hm) (by simp)
            clear HTW'
            go_wp2_with fail
            go_loopg [9] out.length (fun d kv wp => ∃ (k : Nat), d = out.length - k ∧ k ≤ out.length ∧ kv = .int .i64 k ∧ Hid (∀ y ∈ out.take k, y.p = x.p → clE y x = false) ∧ Hid (Mid w wp wo.heap.size x (.slice B out.length b) out))
            case atStart => exact ⟨0, by simp, by omega, rfl, (by simp [Hid]), HM.out⟩
            case round =>
              clear HM hkl hk
              obtain ⟨k, rfl, hk, rfl, HC, HM⟩ := hrel
              by_cases hkl : k < out.length
              · obtain ⟨g, cp, hv, -⟩ := HM.out.own.form (by omega)
                cases hv
                obtain ⟨c0, c1, c2, c3⟩ := own_at4 HM.out.own hkl rfl
                obtain ⟨x0, x1, x2, x3⟩ := HM.out.cells
                have HCN : (out[k].p = x.p → clE out[k] x = false) → Hid (∀ y ∈ out.take (k + 1), y.p = x.p → clE y x = false) := fun h2 y hy => by
                  rw [List.take_succ_eq_append_getElem hkl, List.mem_append, List.mem_singleton] at hy
                  rcases hy with hy | rfl
                  · exact HC.out y hy
                  · exact h2
                cases hp : (out[k].p.toList == x.p.toList) with
                | false =>
                  have HC2 := HCN (fun e => by rw [e] at hp; simp at hp)
                  clear HCN HC
                  go_wp2_with fail
                  refine wp_region_held_drew (S := fun w' => w'.cell? ⟨g, k * 4, none⟩ = some (.string out[k].p) ∧ w'.cell? ⟨g, k * 4 + 1, none⟩ = some (.int .i64 out[k].fr) ∧ w'.cell? ⟨g, k * 4 + 2, none⟩ = some (.int .i64 out[k].to) ∧ w'.cell? ⟨g, k * 4 + 3, none⟩ = some (.string out[k].tx) ∧ w'.cell? ⟨wo.heap.size, 0, none⟩ = some (.string x.p) ∧ w'.cell? ⟨wo.heap.size, 1, none⟩ = some (.int .i64 x.fr) ∧ w'.cell? ⟨wo.heap.size, 2, none⟩ = some (.int .i64 x.to) ∧ w'.cell? ⟨wo.heap.size, 3, none⟩ = some (.string x.tx)) (by kernel_rfl) ⟨c0, c1, c2, c3, x0, x1, x2, x3⟩ (fun hHeld => ?_)
                  refine wpAnyH_take (i := 0) (v := ?_) rfl (by kernel_rfl) (by kernel_rfl) (by kernel_rfl) (fun _ _ _ h => h) (Or.inl ⟨by rfl, ?_⟩) (by assumption) ?_
                  rotate_left
                  · intro V hSw
                    try dsimp only at hSw
                    try simp only [List.getElem_toArray, List.getElem_cons_zero]
                    go_simp
                    first | done | rfl
                  try simp only [Act.put, List.getElem_toArray, List.getElem_cons_zero, List.setIfInBounds_toArray, List.set_cons_zero, List.set_cons_succ]
                  refine wpAnyH_take (i := 1) (v := ?_) rfl (by kernel_rfl) (by kernel_rfl) (by kernel_rfl) (fun _ _ _ h => h) (Or.inl ⟨by rfl, ?_⟩) (by assumption) ?_
                  rotate_left
                  · intro V hSw
                    try dsimp only at hSw
                    try simp only [List.getElem_toArray, List.getElem_cons_zero, List.getElem_cons_succ]
                    go_simp
                    first | done | rfl
                  try simp only [Act.put, List.getElem_toArray, List.getElem_cons_zero, List.getElem_cons_succ, List.setIfInBounds_toArray, List.set_cons_zero, List.set_cons_succ]
                  refine wpAnyH_take (i := 2) (v := ?_) rfl (by kernel_rfl) (by kernel_rfl) (by kernel_rfl) (fun _ _ _ h => h) (Or.inl ⟨by rfl, ?_⟩) (by assumption) ?_
                  rotate_left
                  · intro V hSw
                    try dsimp only at hSw
                    try simp only [List.getElem_toArray, List.getElem_cons_zero, List.getElem_cons_succ]
                    go_simp
                    first | done | rfl
                  try simp only [Act.put, List.getElem_toArray, List.getElem_cons_zero, List.getElem_cons_succ, List.setIfInBounds_toArray, List.set_cons_zero, List.set_cons_succ]
                  refine wpAnyH_take (i := 3) (v := ?_) rfl (by kernel_rfl) (by kernel_rfl) (by kernel_rfl) (fun _ _ _ h => h) (Or.inl ⟨by rfl, ?_⟩) (by assumption) ?_
                  rotate_left
                  · intro V hSw
                    try dsimp only at hSw
                    try simp only [List.getElem_toArray, List.getElem_cons_zero, List.getElem_cons_succ]
                    go_simp
                    first | done | rfl
                  try simp only [Act.put, List.getElem_toArray, List.getElem_cons_zero, List.getElem_cons_succ, List.setIfInBounds_toArray, List.set_cons_zero, List.set_cons_succ]
                  refine wpAnyH_take (i := 4) (v := ?_) rfl (by kernel_rfl) (by kernel_rfl) (by kernel_rfl) (fun _ _ _ h => h) (Or.inl ⟨by rfl, ?_⟩) (by assumption) ?_
                  rotate_left
                  · intro V hSw
                    try dsimp only at hSw
                    try simp only [List.getElem_toArray, List.getElem_cons_zero, List.getElem_cons_succ]
                    go_simp
                    first | done | rfl
                  try simp only [Act.put, List.getElem_toArray, List.getElem_cons_zero, List.getElem_cons_succ, List.setIfInBounds_toArray, List.set_cons_zero, List.set_cons_succ]
                  refine wpAnyH_take (i := 5) (v := ?_) rfl (by kernel_rfl) (by kernel_rfl) (by kernel_rfl) (fun _ _ _ h => h) (Or.inl ⟨by rfl, ?_⟩) (by assumption) ?_
                  rotate_left
                  · intro V hSw
                    try dsimp only at hSw
                    try simp only [List.getElem_toArray, List.getElem_cons_zero, List.getElem_cons_succ]
                    go_simp
                    first | done | rfl
                  try simp only [Act.put, List.getElem_toArray, List.getElem_cons_zero, List.getElem_cons_succ, List.setIfInBounds_toArray, List.set_cons_zero, List.set_cons_succ]
                  refine wpAnyH_take (i := 6) (v := ?_) rfl (by kernel_rfl) (by kernel_rfl) (by kernel_rfl) (fun _ _ _ h => h) (Or.inl ⟨by rfl, ?_⟩) (by assumption) ?_
                  rotate_left
                  · intro V hSw
                    try dsimp only at hSw
                    try simp only [List.getElem_toArray, List.getElem_cons_zero, List.getElem_cons_succ]
                    go_simp
                    first | done | rfl
                  try simp only [Act.put, List.getElem_toArray, List.getElem_cons_zero, List.getElem_cons_succ, List.setIfInBounds_toArray, List.set_cons_zero, List.set_cons_succ]
                  refine wpAnyH_take (i := 7) (v := ?_) rfl (by kernel_rfl) (by kernel_rfl) (by kernel_rfl) (fun _ _ _ h => h) (Or.inl ⟨by rfl, ?_⟩) (by assumption) ?_
                  rotate_left
                  · intro V hSw
                    try dsimp only at hSw
                    try simp only [List.getElem_toArray, List.getElem_cons_zero, List.getElem_cons_succ]
                    go_simp
                    first | done | rfl
                  try simp only [Act.put, List.getElem_toArray, List.getElem_cons_zero, List.getElem_cons_succ, List.setIfInBounds_toArray, List.set_cons_zero, List.set_cons_succ]
                  refine wpAnyH_take (i := 8) (v := ?_) rfl (by kernel_rfl) (by kernel_rfl) (by kernel_rfl) (fun _ _ _ h => h) (Or.inl ⟨by rfl, ?_⟩) (by assumption) ?_
                  rotate_left
                  · intro V hSw
                    try dsimp only at hSw
                    try simp only [List.getElem_toArray, List.getElem_cons_zero, List.getElem_cons_succ]
                    go_simp
                    first | done | rfl
                  try simp only [Act.put, List.getElem_toArray, List.getElem_cons_zero, List.getElem_cons_succ, List.setIfInBounds_toArray, List.set_cons_zero, List.set_cons_succ]
                  refine wpAnyH_take (i := 9) (v := undef) rfl (by kernel_rfl) (by kernel_rfl) (by kernel_rfl) (fun _ _ _ h => h) (Or.inr ⟨by rfl, rfl⟩) (by assumption) ?_
                  try simp only [Act.put, List.getElem_toArray, List.getElem_cons_zero, List.getElem_cons_succ, List.setIfInBounds_toArray, List.set_cons_zero, List.set_cons_succ]
                  refine wpAnyH_take (i := 10) (v := undef) rfl (by kernel_rfl) (by kernel_rfl) (by kernel_rfl) (fun _ _ _ h => h) (Or.inr ⟨by rfl, rfl⟩) (by assumption) ?_
                  try simp only [Act.put, List.getElem_toArray, List.getElem_cons_zero, List.getElem_cons_succ, List.setIfInBounds_toArray, List.set_cons_zero, List.set_cons_succ]
                  refine wpAnyH_take (i := 11) (v := undef) rfl (by kernel_rfl) (by kernel_rfl) (by kernel_rfl) (fun _ _ _ h => h) (Or.inr ⟨by rfl, rfl⟩) (by assumption) ?_
                  try simp only [Act.put, List.getElem_toArray, List.getElem_cons_zero, List.getElem_cons_succ, List.setIfInBounds_toArray, List.set_cons_zero, List.set_cons_succ]
                  refine wpAnyH_take (i := 12) (v := undef) rfl (by kernel_rfl) (by kernel_rfl) (by kernel_rfl) (fun _ _ _ h => h) (Or.inr ⟨by rfl, rfl⟩) (by assumption) ?_
                  try simp only [Act.put, List.getElem_toArray, List.getElem_cons_zero, List.getElem_cons_succ, List.setIfInBounds_toArray, List.set_cons_zero, List.set_cons_succ]
                  refine wpAnyH_take (i := 13) (v := undef) rfl (by kernel_rfl) (by kernel_rfl) (by kernel_rfl) (fun _ _ _ h => h) (Or.inr ⟨by rfl, rfl⟩) (by assumption) ?_
                  try simp only [Act.put, List.getElem_toArray, List.getElem_cons_zero, List.getElem_cons_succ, List.setIfInBounds_toArray, List.set_cons_zero, List.set_cons_succ]
                  refine wpAnyH_take (i := 14) (v := undef) rfl (by kernel_rfl) (by kernel_rfl) (by kernel_rfl) (fun _ _ _ h => h) (Or.inr ⟨by rfl, rfl⟩) (by assumption) ?_
                  try simp only [Act.put, List.getElem_toArray, List.getElem_cons_zero, List.getElem_cons_succ, List.setIfInBounds_toArray, List.set_cons_zero, List.set_cons_succ]
                  refine wpAnyH_take (i := 15) (v := ?_) rfl (by kernel_rfl) (by kernel_rfl) (by kernel_rfl) (fun _ _ _ h => h) (Or.inl ⟨by rfl, ?_⟩) (by assumption) ?_
                  rotate_left
                  · intro V hSw
                    try dsimp only at hSw
                    try simp only [List.getElem_toArray, List.getElem_cons_zero, List.getElem_cons_succ]
                    go_simp
                    first | done | rfl
                  try simp only [Act.put, List.getElem_toArray, List.getElem_cons_zero, List.getElem_cons_succ, List.setIfInBounds_toArray, List.set_cons_zero, List.set_cons_succ]
                  refine wpAnyH_done (by kernel_rfl) ?_ _
                  go_wp2_with fail
                  go_roundg (out.length - (k + 1))
                  case measure => omega
                  case rel => exact ⟨k + 1, rfl, by omega, by go_num, HC2.out, HM.out.drewN 1⟩
                | true =>
                  have HPP : Hid (out[k].p = x.p) := beq_path hp
                  go_wp2_with fail
                  refine wp_region_held_drew (S := fun w' => w'.cell? ⟨g, k * 4, none⟩ = some (.string out[k].p) ∧ w'.cell? ⟨g, k * 4 + 1, none⟩ = some (.int .i64 out[k].fr) ∧ w'.cell? ⟨g, k * 4 + 2, none⟩ = some (.int .i64 out[k].to) ∧ w'.cell? ⟨g, k * 4 + 3, none⟩ = some (.string out[k].tx) ∧ w'.cell? ⟨wo.heap.size, 0, none⟩ = some (.string x.p) ∧ w'.cell? ⟨wo.heap.size, 1, none⟩ = some (.int .i64 x.fr) ∧ w'.cell? ⟨wo.heap.size, 2, none⟩ = some (.int .i64 x.to) ∧ w'.cell? ⟨wo.heap.size, 3, none⟩ = some (.string x.tx)) (by kernel_rfl) ⟨c0, c1, c2, c3, x0, x1, x2, x3⟩ (fun hHeld => ?_)
                  refine wpAnyH_take (i := 0) (v := ?_) rfl (by kernel_rfl) (by kernel_rfl) (by kernel_rfl) (fun _ _ _ h => h) (Or.inl ⟨by rfl, ?_⟩) (by assumption) ?_
                  rotate_left
                  · intro V hSw
                    try dsimp only at hSw
                    try simp only [List.getElem_toArray, List.getElem_cons_zero]
                    go_simp
                    first | done | rfl
                  try simp only [Act.put, List.getElem_toArray, List.getElem_cons_zero, List.setIfInBounds_toArray, List.set_cons_zero, List.set_cons_succ]
                  refine wpAnyH_take (i := 1) (v := ?_) rfl (by kernel_rfl) (by kernel_rfl) (by kernel_rfl) (fun _ _ _ h => h) (Or.inl ⟨by rfl, ?_⟩) (by assumption) ?_
                  rotate_left
                  · intro V hSw
                    try dsimp only at hSw
                    try simp only [List.getElem_toArray, List.getElem_cons_zero, List.getElem_cons_succ]
                    go_simp
                    first | done | rfl
                  try simp only [Act.put, List.getElem_toArray, List.getElem_cons_zero, List.getElem_cons_succ, List.setIfInBounds_toArray, List.set_cons_zero, List.set_cons_succ]
                  refine wpAnyH_take (i := 2) (v := ?_) rfl (by kernel_rfl) (by kernel_rfl) (by kernel_rfl) (fun _ _ _ h => h) (Or.inl ⟨by rfl, ?_⟩) (by assumption) ?_
                  rotate_left
                  · intro V hSw
                    try dsimp only at hSw
                    try simp only [List.getElem_toArray, List.getElem_cons_zero, List.getElem_cons_succ]
                    go_simp
                    first | done | rfl
                  try simp only [Act.put, List.getElem_toArray, List.getElem_cons_zero, List.getElem_cons_succ, List.setIfInBounds_toArray, List.set_cons_zero, List.set_cons_succ]
                  refine wpAnyH_take (i := 3) (v := ?_) rfl (by kernel_rfl) (by kernel_rfl) (by kernel_rfl) (fun _ _ _ h => h) (Or.inl ⟨by rfl, ?_⟩) (by assumption) ?_
                  rotate_left
                  · intro V hSw
                    try dsimp only at hSw
                    try simp only [List.getElem_toArray, List.getElem_cons_zero, List.getElem_cons_succ]
                    go_simp
                    first | done | rfl
                  try simp only [Act.put, List.getElem_toArray, List.getElem_cons_zero, List.getElem_cons_succ, List.setIfInBounds_toArray, List.set_cons_zero, List.set_cons_succ]
                  refine wpAnyH_take (i := 4) (v := ?_) rfl (by kernel_rfl) (by kernel_rfl) (by kernel_rfl) (fun _ _ _ h => h) (Or.inl ⟨by rfl, ?_⟩) (by assumption) ?_
                  rotate_left
                  · intro V hSw
                    try dsimp only at hSw
                    try simp only [List.getElem_toArray, List.getElem_cons_zero, List.getElem_cons_succ]
                    go_simp
                    first | done | rfl
                  try simp only [Act.put, List.getElem_toArray, List.getElem_cons_zero, List.getElem_cons_succ, List.setIfInBounds_toArray, List.set_cons_zero, List.set_cons_succ]
                  refine wpAnyH_take (i := 5) (v := ?_) rfl (by kernel_rfl) (by kernel_rfl) (by kernel_rfl) (fun _ _ _ h => h) (Or.inl ⟨by rfl, ?_⟩) (by assumption) ?_
                  rotate_left
                  · intro V hSw
                    try dsimp only at hSw
                    try simp only [List.getElem_toArray, List.getElem_cons_zero, List.getElem_cons_succ]
                    go_simp
                    first | done | rfl
                  try simp only [Act.put, List.getElem_toArray, List.getElem_cons_zero, List.getElem_cons_succ, List.setIfInBounds_toArray, List.set_cons_zero, List.set_cons_succ]
                  refine wpAnyH_take (i := 6) (v := ?_) rfl (by kernel_rfl) (by kernel_rfl) (by kernel_rfl) (fun _ _ _ h => h) (Or.inl ⟨by rfl, ?_⟩) (by assumption) ?_
                  rotate_left
                  · intro V hSw
                    try dsimp only at hSw
                    try simp only [List.getElem_toArray, List.getElem_cons_zero, List.getElem_cons_succ]
                    go_simp
                    first | done | rfl
                  try simp only [Act.put, List.getElem_toArray, List.getElem_cons_zero, List.getElem_cons_succ, List.setIfInBounds_toArray, List.set_cons_zero, List.set_cons_succ]
                  refine wpAnyH_take (i := 7) (v := ?_) rfl (by kernel_rfl) (by kernel_rfl) (by kernel_rfl) (fun _ _ _ h => h) (Or.inl ⟨by rfl, ?_⟩) (by assumption) ?_
                  rotate_left
                  · intro V hSw
                    try dsimp only at hSw
                    try simp only [List.getElem_toArray, List.getElem_cons_zero, List.getElem_cons_succ]
                    go_simp
                    first | done | rfl
                  try simp only [Act.put, List.getElem_toArray, List.getElem_cons_zero, List.getElem_cons_succ, List.setIfInBounds_toArray, List.set_cons_zero, List.set_cons_succ]
                  refine wpAnyH_take (i := 8) (v := ?_) rfl (by kernel_rfl) (by kernel_rfl) (by kernel_rfl) (fun _ _ _ h => h) (Or.inl ⟨by rfl, ?_⟩) (by assumption) ?_
                  rotate_left
                  · intro V hSw
                    try dsimp only at hSw
                    try simp only [List.getElem_toArray, List.getElem_cons_zero, List.getElem_cons_succ]
                    go_simp
                    first | done | rfl
                  try simp only [Act.put, List.getElem_toArray, List.getElem_cons_zero, List.getElem_cons_succ, List.setIfInBounds_toArray, List.set_cons_zero, List.set_cons_succ]
                  refine wpAnyH_take (i := 9) (v := ?_) rfl (by kernel_rfl) (by kernel_rfl) (by kernel_rfl) (fun _ _ _ h => h) (Or.inl ⟨by rfl, ?_⟩) (by assumption) ?_
                  rotate_left
                  · intro V hSw
                    try dsimp only at hSw
                    try simp only [List.getElem_toArray, List.getElem_cons_zero, List.getElem_cons_succ]
                    go_simp
                    first | done | rfl
                  try simp only [Act.put, List.getElem_toArray, List.getElem_cons_zero, List.getElem_cons_succ, List.setIfInBounds_toArray, List.set_cons_zero, List.set_cons_succ]
                  refine wpAnyH_take (i := 10) (v := ?_) rfl (by kernel_rfl) (by kernel_rfl) (by kernel_rfl) (fun _ _ _ h => h) (Or.inl ⟨by rfl, ?_⟩) (by assumption) ?_
                  rotate_left
                  · intro V hSw
                    try dsimp only at hSw
                    try simp only [List.getElem_toArray, List.getElem_cons_zero, List.getElem_cons_succ]
                    go_simp
                    first | done | rfl
                  try simp only [Act.put, List.getElem_toArray, List.getElem_cons_zero, List.getElem_cons_succ, List.setIfInBounds_toArray, List.set_cons_zero, List.set_cons_succ]
                  refine wpAnyH_take (i := 11) (v := ?_) rfl (by kernel_rfl) (by kernel_rfl) (by kernel_rfl) (fun _ _ _ h => h) (Or.inl ⟨by rfl, ?_⟩) (by assumption) ?_
                  rotate_left
                  · intro V hSw
                    try dsimp only at hSw
                    try simp only [List.getElem_toArray, List.getElem_cons_zero, List.getElem_cons_succ]
                    go_simp
                    first | done | rfl
                  try simp only [Act.put, List.getElem_toArray, List.getElem_cons_zero, List.getElem_cons_succ, List.setIfInBounds_toArray, List.set_cons_zero, List.set_cons_succ]
                  refine wpAnyH_take (i := 12) (v := ?_) rfl (by kernel_rfl) (by kernel_rfl) (by kernel_rfl) (fun _ _ _ h => h) (Or.inl ⟨by rfl, ?_⟩) (by assumption) ?_
                  rotate_left
                  · intro V hSw
                    try dsimp only at hSw
                    try simp only [List.getElem_toArray, List.getElem_cons_zero, List.getElem_cons_succ]
                    go_simp
                    first | done | rfl
                  try simp only [Act.put, List.getElem_toArray, List.getElem_cons_zero, List.getElem_cons_succ, List.setIfInBounds_toArray, List.set_cons_zero, List.set_cons_succ]
                  refine wpAnyH_take (i := 13) (v := ?_) rfl (by kernel_rfl) (by kernel_rfl) (by kernel_rfl) (fun _ _ _ h => h) (Or.inl ⟨by rfl, ?_⟩) (by assumption) ?_
                  rotate_left
                  · intro V hSw
                    try dsimp only at hSw
                    try simp only [List.getElem_toArray, List.getElem_cons_zero, List.getElem_cons_succ]
                    go_simp
                    first | done | rfl
                  try simp only [Act.put, List.getElem_toArray, List.getElem_cons_zero, List.getElem_cons_succ, List.setIfInBounds_toArray, List.set_cons_zero, List.set_cons_succ]
                  refine wpAnyH_ready (rs := [14]) (by kernel_rfl) (by simp) ?_
                  refine AllReadyH.cons rfl (fun K hK => ?_) AllReadyH.nil
                  try simp only [List.getElem_toArray, List.getElem_cons_zero, List.getElem_cons_succ]
                  go_simp
                  refine (clash_calls (x := out[k]) (y := x)).mono ?_
                  rintro e w5 ⟨rfl, hb5⟩
                  have HM5 : Hid (Mid w w5 wo.heap.size x (.slice (some ⟨g, 0, none⟩) out.length b) out) := HM.out.go (below_drewO hb5)
                  obtain ⟨rc, hrc⟩ : ∃ rc, clE out[k] x = rc := ⟨_, rfl⟩
                  rw [hrc]
                  have HRC := Lib.hid hrc
                  clear hb5 hrc
                  obtain ⟨y0, y1, y2, y3⟩ := own_at4 HM5.out.own hkl rfl
                  obtain ⟨z0, z1, z2, z3⟩ := HM5.out.cells
                  refine hK.out _ _ ⟨y0, y1, y2, y3, z0, z1, z2, z3⟩ (fun hHeld => ?_)
                  clear hK K
                  try simp only [Act.put, List.getElem_toArray, List.getElem_cons_zero, List.getElem_cons_succ, List.setIfInBounds_toArray, List.set_cons_zero, List.set_cons_succ]
                  refine wpAnyH_take (i := 15) (v := ?_) rfl (by kernel_rfl) (by kernel_rfl) (by kernel_rfl) (fun _ _ _ h => h) (Or.inl ⟨by rfl, ?_⟩) (by assumption) ?_
                  rotate_left
                  · intro V hSw
                    try dsimp only at hSw
                    try simp only [List.getElem_toArray, List.getElem_cons_zero, List.getElem_cons_succ]
                    go_simp
                    first | done | rfl
                  try simp only [Act.put, List.getElem_toArray, List.getElem_cons_zero, List.getElem_cons_succ, List.setIfInBounds_toArray, List.set_cons_zero, List.set_cons_succ]
                  refine wpAnyH_done (by kernel_rfl) ?_ _
                  clear x0 x1 x2 x3 c0 c1 c2 c3 hHeld
                  cases rc with
                  | true =>
                    have HBAD : Hid (okAll (sortd l) = false) := HI.out.clash hlt HNI.out (List.getElem_mem hkl) (by rw [HX.out]; exact HPP.out) (by rw [HX.out]; exact HRC.out)
                    go_wp2_with fail
                    go_ret2
                    exact HR.out _ _ ⟨.inr ⟨HBAD.out, rfl⟩, HM5.out.below⟩
                  | false =>
                    have HC2 := HCN (fun _ => HRC.out)
                    clear HCN HC
                    go_wp2_with fail
                    go_roundg (out.length - (k + 1))
                    case measure => omega
                    case rel => exact ⟨k + 1, rfl, by omega, by go_num, HC2.out, HM5.out⟩
              · obtain rfl : k = out.length := by omega
                have HCC : Hid (∀ y ∈ out, y.p = l[i].p → clE y l[i] = false) := by
                  have := HC.out
                  rw [List.take_length] at this
                  unfold Hid
                  rw [HX.out]; exact this
                obtain ⟨x0, x1, x2, x3⟩ := HM.out.cells
                have hzm := HM.out.below.size
                clear HC
                go_wp2_with (at_builtin; refine wpList_append_row _ rfl _ _ 22 rfl w.heap.size 33 i0 _ 4 48 Try.underlying22 hi iz0 iz1 iz2 rfl (by omega) _ out.length (flat out) rfl ?c1 (fun _ => True) (.slice (some ⟨wr.heap.size, 0, none⟩) 1 1) 1 (flat [x]) rfl ?c2 (flat_one _) ?c3 ?c4 ?c5 ?_)
                case c1 => exact own_below HM.out.own ((Below.refl _ _).alloc (Nat.le_refl _) _)
                case c2 => exact row_blk (Blk.new wr 33 _) rfl (by decide) trivial
                case c3 => unfold maxLen; omega
                case c4 => omega
                case c5 => simp; omega
                intro v' w6 hown hg hnil hat
                have HB6 : Hid (Below w.heap.size w w6) := (HM.out.below.alloc hzm _).grown hg (by simp; omega) (own_ge HM.out.own)
                have hown' : w6.ownsRow w.heap.size 33 4 v' (out.length + 1) (flat (insK out x out.length)) := by rw [insK_end, flat_app]; exact hown
                obtain ⟨g, c2, rfl, -⟩ := hown'.form (by omega)
                have HO6 := Lib.hid hown'
                clear hown hown' hg hnil hat x0 x1 x2 x3 HM
                go_wp2_with fail
                go_loopg [10] out.length (fun d kv wp => ∃ (k : Nat), k = d ∧ k ≤ out.length ∧ kv = .int .i64 k ∧ Hid (wp.ownsRow w.heap.size 33 4 (.slice (some ⟨g, 0, none⟩) (out.length + 1) c2) (out.length + 1) (flat (insK out x k))) ∧ Hid (∀ y ∈ out.drop k, ltE x y) ∧ Hid (Below w.heap.size w wp))
                case atStart => exact ⟨out.length, rfl, by omega, by go_num, HO6.out, (by simp [Hid]), HB6.out⟩
                case round =>
                  clear HO6 HB6 hk hkl hzm
                  obtain ⟨k, rfl, hk, rfl, HOK, HLT, HBK⟩ := hrel
                  have hzk := HBK.out.size
                  have hkl := insK_len (x := x) hk
                  by_cases hk0 : k = 0
                  · have HI2 : Hid (RefI l (i + 1) (insK out x k)) := by
                      have := HI.out.put hlt hk HV.out HNI.out HCC.out (fun y hy => by rw [HX.out]; exact HLT.out y hy) (.inl hk0)
                      rw [HX.out] at this
                      exact this
                    have HO7 : Hid (wr.ownsRow w.heap.size 33 4 (.slice (some ⟨g, 0, none⟩) (out.length + 1) c2) (insK out x k).length (flat (insK out x k))) := by unfold Hid; rw [hkl]; exact HOK.out
                    have hd : decide (0 < k) = false := decide_eq_false (by omega)
                    have hd' : ¬0 < k := by omega
                    clear hk0 HLT HOK hkl
                    go_wp2_with fail
                    refine wp_region_held_drew (S := fun _ => True) (by kernel_rfl) trivial (fun hHeld => ?_)
                    refine wpAnyH_take (i := 0) (v := ?_) rfl (by kernel_rfl) (by kernel_rfl) (by kernel_rfl) (fun _ _ _ h => h) (Or.inl ⟨by rfl, ?_⟩) (by assumption) ?_
                    rotate_left
                    · intro V hSw
                      try dsimp only at hSw
                      try simp only [List.getElem_toArray, List.getElem_cons_zero]
                      go_simp
                      first | done | rfl
                    try simp only [Act.put, List.getElem_toArray, List.getElem_cons_zero, List.setIfInBounds_toArray, List.set_cons_zero, List.set_cons_succ]
                    refine wpAnyH_take (i := 1) (v := ?_) rfl (by kernel_rfl) (by kernel_rfl) (by kernel_rfl) (fun _ _ _ h => h) (Or.inl ⟨by rfl, ?_⟩) (by assumption) ?_
                    rotate_left
                    · intro V hSw
                      try dsimp only at hSw
                      try simp only [List.getElem_toArray, List.getElem_cons_zero, List.getElem_cons_succ]
                      go_simp
                      first | done | rfl
                    try simp only [Act.put, List.getElem_toArray, List.getElem_cons_zero, List.getElem_cons_succ, List.setIfInBounds_toArray, List.set_cons_zero, List.set_cons_succ]
                    refine wpAnyH_take (i := 2) (v := ?_) rfl (by kernel_rfl) (by kernel_rfl) (by kernel_rfl) (fun _ _ _ h => h) (Or.inl ⟨by rfl, ?_⟩) (by assumption) ?_
                    rotate_left
                    · intro V hSw
                      try dsimp only at hSw
                      try simp only [List.getElem_toArray, List.getElem_cons_zero, List.getElem_cons_succ]
                      go_simp
                      first | done | rfl
                    try simp only [Act.put, List.getElem_toArray, List.getElem_cons_zero, List.getElem_cons_succ, List.setIfInBounds_toArray, List.set_cons_zero, List.set_cons_succ]
                    refine wpAnyH_take (i := 3) (v := undef) rfl (by kernel_rfl) (by kernel_rfl) (by kernel_rfl) (fun _ _ _ h => h) (Or.inr ⟨by rfl, rfl⟩) (by assumption) ?_
                    try simp only [Act.put, List.getElem_toArray, List.getElem_cons_zero, List.getElem_cons_succ, List.setIfInBounds_toArray, List.set_cons_zero, List.set_cons_succ]
                    refine wpAnyH_take (i := 4) (v := undef) rfl (by kernel_rfl) (by kernel_rfl) (by kernel_rfl) (fun _ _ _ h => h) (Or.inr ⟨by rfl, rfl⟩) (by assumption) ?_
                    try simp only [Act.put, List.getElem_toArray, List.getElem_cons_zero, List.getElem_cons_succ, List.setIfInBounds_toArray, List.set_cons_zero, List.set_cons_succ]
                    refine wpAnyH_take (i := 5) (v := undef) rfl (by kernel_rfl) (by kernel_rfl) (by kernel_rfl) (fun _ _ _ h => h) (Or.inr ⟨by rfl, rfl⟩) (by assumption) ?_
                    try simp only [Act.put, List.getElem_toArray, List.getElem_cons_zero, List.getElem_cons_succ, List.setIfInBounds_toArray, List.set_cons_zero, List.set_cons_succ]
                    refine wpAnyH_take (i := 6) (v := undef) rfl (by kernel_rfl) (by kernel_rfl) (by kernel_rfl) (fun _ _ _ h => h) (Or.inr ⟨by rfl, rfl⟩) (by assumption) ?_
                    try simp only [Act.put, List.getElem_toArray, List.getElem_cons_zero, List.getElem_cons_succ, List.setIfInBounds_toArray, List.set_cons_zero, List.set_cons_succ]
                    refine wpAnyH_take (i := 7) (v := undef) rfl (by kernel_rfl) (by kernel_rfl) (by kernel_rfl) (fun _ _ _ h => h) (Or.inr ⟨by rfl, rfl⟩) (by assumption) ?_
                    try simp only [Act.put, List.getElem_toArray, List.getElem_cons_zero, List.getElem_cons_succ, List.setIfInBounds_toArray, List.set_cons_zero, List.set_cons_succ]
                    refine wpAnyH_take (i := 8) (v := undef) rfl (by kernel_rfl) (by kernel_rfl) (by kernel_rfl) (fun _ _ _ h => h) (Or.inr ⟨by rfl, rfl⟩) (by assumption) ?_
                    try simp only [Act.put, List.getElem_toArray, List.getElem_cons_zero, List.getElem_cons_succ, List.setIfInBounds_toArray, List.set_cons_zero, List.set_cons_succ]
                    refine wpAnyH_take (i := 9) (v := undef) rfl (by kernel_rfl) (by kernel_rfl) (by kernel_rfl) (fun _ _ _ h => h) (Or.inr ⟨by rfl, rfl⟩) (by assumption) ?_
                    try simp only [Act.put, List.getElem_toArray, List.getElem_cons_zero, List.getElem_cons_succ, List.setIfInBounds_toArray, List.set_cons_zero, List.set_cons_succ]
                    refine wpAnyH_take (i := 10) (v := undef) rfl (by kernel_rfl) (by kernel_rfl) (by kernel_rfl) (fun _ _ _ h => h) (Or.inr ⟨by rfl, rfl⟩) (by assumption) ?_
                    try simp only [Act.put, List.getElem_toArray, List.getElem_cons_zero, List.getElem_cons_succ, List.setIfInBounds_toArray, List.set_cons_zero, List.set_cons_succ]
                    refine wpAnyH_take (i := 11) (v := undef) rfl (by kernel_rfl) (by kernel_rfl) (by kernel_rfl) (fun _ _ _ h => h) (Or.inr ⟨by rfl, rfl⟩) (by assumption) ?_
                    try simp only [Act.put, List.getElem_toArray, List.getElem_cons_zero, List.getElem_cons_succ, List.setIfInBounds_toArray, List.set_cons_zero, List.set_cons_succ]
                    refine wpAnyH_take (i := 12) (v := undef) rfl (by kernel_rfl) (by kernel_rfl) (by kernel_rfl) (fun _ _ _ h => h) (Or.inr ⟨by rfl, rfl⟩) (by assumption) ?_
                    try simp only [Act.put, List.getElem_toArray, List.getElem_cons_zero, List.getElem_cons_succ, List.setIfInBounds_toArray, List.set_cons_zero, List.set_cons_succ]
                    refine wpAnyH_take (i := 13) (v := ?_) rfl (by kernel_rfl) (by kernel_rfl) (by kernel_rfl) (fun _ _ _ h => h) (Or.inl ⟨by rfl, ?_⟩) (by assumption) ?_
                    rotate_left
                    · intro V hSw
                      try dsimp only at hSw
                      try simp only [List.getElem_toArray, List.getElem_cons_zero, List.getElem_cons_succ]
                      go_simp
                      first | done | rfl
                    try simp only [Act.put, List.getElem_toArray, List.getElem_cons_zero, List.getElem_cons_succ, List.setIfInBounds_toArray, List.set_cons_zero, List.set_cons_succ]
                    refine wpAnyH_done (by kernel_rfl) ?_ _
                    go_wp2_with fail
                    go_roundg (l.length - (i + 1))
                    case measure => omega
                    case rel => exact ⟨i + 1, _, rfl, by omega, by go_num, own_below HO7.out (below_drewN (Below.refl _ _) 1), HI2.out, below_drewN HBK.out 1⟩
                  · obtain ⟨m, hm⟩ : ∃ m, k = m + 1 := ⟨k - 1, by omega⟩
                    have hml : m < out.length := by omega
                    have hmk : m < k := by omega
                    obtain ⟨c0, c1, c2', c3⟩ := own_at4 HOK.out (i := k) (by omega) hkl
                    rw [insK_self hk] at c0 c1 c2' c3
                    obtain ⟨d0, d1, d2, d3⟩ := own_at4 HOK.out (i := m) (by omega) hkl
                    rw [insK_lt hk hmk] at d0 d1 d2 d3
                    have hmI : (k : Int) - 1 = (m : Int) := by omega
                    have hkI : (k : Int) < (out.length : Int) + 1 := by omega
                    have hmI2 : (m : Int) < (out.length : Int) + 1 := by omega
                    have hmw : IntKind.i64.wrap (m : Int) = m := by rw [IntKind.wrap_i64]; omega
                    have hd : decide (0 < k) = true := decide_eq_true (by omega)
                    have hd' : 0 < k := by omega
                    have HMK := Lib.hid hm
                    clear hm hk0
                    go_wp2_with fail
                    refine wp_region_held_drew (S := fun w' => w'.cell? ⟨g, k * 4, none⟩ = some (.string x.p) ∧ w'.cell? ⟨g, k * 4 + 1, none⟩ = some (.int .i64 x.fr) ∧ w'.cell? ⟨g, k * 4 + 2, none⟩ = some (.int .i64 x.to) ∧ w'.cell? ⟨g, k * 4 + 3, none⟩ = some (.string x.tx) ∧ w'.cell? ⟨g, m * 4, none⟩ = some (.string out[m].p) ∧ w'.cell? ⟨g, m * 4 + 1, none⟩ = some (.int .i64 out[m].fr) ∧ w'.cell? ⟨g, m * 4 + 2, none⟩ = some (.int .i64 out[m].to) ∧ w'.cell? ⟨g, m * 4 + 3, none⟩ = some (.string out[m].tx)) (by kernel_rfl) ⟨c0, c1, c2', c3, d0, d1, d2, d3⟩ (fun hHeld => ?_)
                    refine wpAnyH_take (i := 0) (v := ?_) rfl (by kernel_rfl) (by kernel_rfl) (by kernel_rfl) (fun _ _ _ h => h) (Or.inl ⟨by rfl, ?_⟩) (by assumption) ?_
                    rotate_left
                    · intro V hSw
                      try dsimp only at hSw
                      try simp only [List.getElem_toArray, List.getElem_cons_zero]
                      go_simp
                      first | done | rfl
                    try simp only [Act.put, List.getElem_toArray, List.getElem_cons_zero, List.setIfInBounds_toArray, List.set_cons_zero, List.set_cons_succ]
                    refine wpAnyH_take (i := 1) (v := ?_) rfl (by kernel_rfl) (by kernel_rfl) (by kernel_rfl) (fun _ _ _ h => h) (Or.inl ⟨by rfl, ?_⟩) (by assumption) ?_
                    rotate_left
                    · intro V hSw
                      try dsimp only at hSw
                      try simp only [List.getElem_toArray, List.getElem_cons_zero, List.getElem_cons_succ]
                      go_simp
                      first | done | rfl
                    try simp only [Act.put, List.getElem_toArray, List.getElem_cons_zero, List.getElem_cons_succ, List.setIfInBounds_toArray, List.set_cons_zero, List.set_cons_succ]
                    refine wpAnyH_take (i := 2) (v := ?_) rfl (by kernel_rfl) (by kernel_rfl) (by kernel_rfl) (fun _ _ _ h => h) (Or.inl ⟨by rfl, ?_⟩) (by assumption) ?_
                    rotate_left
                    · intro V hSw
                      try dsimp only at hSw
                      try simp only [List.getElem_toArray, List.getElem_cons_zero, List.getElem_cons_succ]
                      go_simp
                      first | done | rfl
                    try simp only [Act.put, List.getElem_toArray, List.getElem_cons_zero, List.getElem_cons_succ, List.setIfInBounds_toArray, List.set_cons_zero, List.set_cons_succ]
                    refine wpAnyH_take (i := 3) (v := ?_) rfl (by kernel_rfl) (by kernel_rfl) (by kernel_rfl) (fun _ _ _ h => h) (Or.inl ⟨by rfl, ?_⟩) (by assumption) ?_
                    rotate_left
                    · intro V hSw
                      try dsimp only at hSw
                      try simp only [List.getElem_toArray, List.getElem_cons_zero, List.getElem_cons_succ]
                      go_simp
                      first | done | rfl
                    try simp only [Act.put, List.getElem_toArray, List.getElem_cons_zero, List.getElem_cons_succ, List.setIfInBounds_toArray, List.set_cons_zero, List.set_cons_succ]
                    refine wpAnyH_take (i := 4) (v := ?_) rfl (by kernel_rfl) (by kernel_rfl) (by kernel_rfl) (fun _ _ _ h => h) (Or.inl ⟨by rfl, ?_⟩) (by assumption) ?_
                    rotate_left
                    · intro V hSw
                      try dsimp only at hSw
                      try simp only [List.getElem_toArray, List.getElem_cons_zero, List.getElem_cons_succ]
                      go_simp
                      first | done | rfl
                    try simp only [Act.put, List.getElem_toArray, List.getElem_cons_zero, List.getElem_cons_succ, List.setIfInBounds_toArray, List.set_cons_zero, List.set_cons_succ]
                    refine wpAnyH_take (i := 5) (v := ?_) rfl (by kernel_rfl) (by kernel_rfl) (by kernel_rfl) (fun _ _ _ h => h) (Or.inl ⟨by rfl, ?_⟩) (by assumption) ?_
                    rotate_left
                    · intro V hSw
                      try dsimp only at hSw
                      try simp only [List.getElem_toArray, List.getElem_cons_zero, List.getElem_cons_succ]
                      go_simp
                      first | done | rfl
                    try simp only [Act.put, List.getElem_toArray, List.getElem_cons_zero, List.getElem_cons_succ, List.setIfInBounds_toArray, List.set_cons_zero, List.set_cons_succ]
                    refine wpAnyH_take (i := 6) (v := ?_) rfl (by kernel_rfl) (by kernel_rfl) (by kernel_rfl) (fun _ _ _ h => h) (Or.inl ⟨by rfl, ?_⟩) (by assumption) ?_
                    rotate_left
                    · intro V hSw
                      try dsimp only at hSw
                      try simp only [List.getElem_toArray, List.getElem_cons_zero, List.getElem_cons_succ]
                      go_simp
                      first | done | rfl
                    try simp only [Act.put, List.getElem_toArray, List.getElem_cons_zero, List.getElem_cons_succ, List.setIfInBounds_toArray, List.set_cons_zero, List.set_cons_succ]
                    refine wpAnyH_take (i := 7) (v := ?_) rfl (by kernel_rfl) (by kernel_rfl) (by kernel_rfl) (fun _ _ _ h => h) (Or.inl ⟨by rfl, ?_⟩) (by assumption) ?_
                    rotate_left
                    · intro V hSw
                      try dsimp only at hSw
                      try simp only [List.getElem_toArray, List.getElem_cons_zero, List.getElem_cons_succ]
                      go_simp
                      first | done | rfl
                    try simp only [Act.put, List.getElem_toArray, List.getElem_cons_zero, List.getElem_cons_succ, List.setIfInBounds_toArray, List.set_cons_zero, List.set_cons_succ]
                    refine wpAnyH_take (i := 8) (v := ?_) rfl (by kernel_rfl) (by kernel_rfl) (by kernel_rfl) (fun _ _ _ h => h) (Or.inl ⟨by rfl, ?_⟩) (by assumption) ?_
                    rotate_left
                    · intro V hSw
                      try dsimp only at hSw
                      try simp only [List.getElem_toArray, List.getElem_cons_zero, List.getElem_cons_succ]
                      go_simp
                      first | done | rfl
                    try simp only [Act.put, List.getElem_toArray, List.getElem_cons_zero, List.getElem_cons_succ, List.setIfInBounds_toArray, List.set_cons_zero, List.set_cons_succ]
                    refine wpAnyH_take (i := 9) (v := ?_) rfl (by kernel_rfl) (by kernel_rfl) (by kernel_rfl) (fun _ _ _ h => h) (Or.inl ⟨by rfl, ?_⟩) (by assumption) ?_
                    rotate_left
                    · intro V hSw
                      try dsimp only at hSw
                      try simp only [List.getElem_toArray, List.getElem_cons_zero, List.getElem_cons_succ]
                      go_simp
                      first | done | rfl
                    try simp only [Act.put, List.getElem_toArray, List.getElem_cons_zero, List.getElem_cons_succ, List.setIfInBounds_toArray, List.set_cons_zero, List.set_cons_succ]
                    refine wpAnyH_take (i := 10) (v := ?_) rfl (by kernel_rfl) (by kernel_rfl) (by kernel_rfl) (fun _ _ _ h => h) (Or.inl ⟨by rfl, ?_⟩) (by assumption) ?_
                    rotate_left
                    · intro V hSw
                      try dsimp only at hSw
                      try simp only [List.getElem_toArray, List.getElem_cons_zero, List.getElem_cons_succ]
                      go_simp
                      first | done | rfl
                    try simp only [Act.put, List.getElem_toArray, List.getElem_cons_zero, List.getElem_cons_succ, List.setIfInBounds_toArray, List.set_cons_zero, List.set_cons_succ]
                    refine wpAnyH_take (i := 11) (v := ?_) rfl (by kernel_rfl) (by kernel_rfl) (by kernel_rfl) (fun _ _ _ h => h) (Or.inl ⟨by rfl, ?_⟩) (by assumption) ?_
                    rotate_left
                    · intro V hSw
                      try dsimp only at hSw
                      try simp only [List.getElem_toArray, List.getElem_cons_zero, List.getElem_cons_succ]
                      go_simp
                      first | done | rfl
                    try simp only [Act.put, List.getElem_toArray, List.getElem_cons_zero, List.getElem_cons_succ, List.setIfInBounds_toArray, List.set_cons_zero, List.set_cons_succ]
                    refine wpAnyH_ready (rs := [12]) (by kernel_rfl) (by simp) ?_
                    refine AllReadyH.cons rfl (fun K hK => ?_) AllReadyH.nil
                    try simp only [List.getElem_toArray, List.getElem_cons_zero, List.getElem_cons_succ]
                    go_simp
                    refine (less_calls (x := x) (y := out[m])).mono ?_
                    rintro e w5 ⟨rfl, hb5⟩
                    have HOK5 : Hid (w5.ownsRow w.heap.size 33 4 (.slice (some ⟨g, 0, none⟩) (out.length + 1) c2) (out.length + 1) (flat (insK out x k))) := own_below HOK.out (below_drewO hb5)
                    have HB5 : Hid (Below w.heap.size w w5) := HBK.out.trans ((below_drewO hb5).mono hzk)
                    obtain ⟨rl, hrl⟩ : ∃ rl, lsE x out[m] = rl := ⟨_, rfl⟩
                    rw [hrl]
                    have HRL := Lib.hid hrl
                    clear hb5 hrl
                    obtain ⟨y0, y1, y2, y3⟩ := own_at4 HOK5.out (i := k) (by omega) hkl
                    rw [insK_self hk] at y0 y1 y2 y3
                    obtain ⟨z0, z1, z2, z3⟩ := own_at4 HOK5.out (i := m) (by omega) hkl
                    rw [insK_lt hk hmk] at z0 z1 z2 z3
                    refine hK.out _ _ ⟨y0, y1, y2, y3, z0, z1, z2, z3⟩ (fun hHeld => ?_)
                    clear hK K
                    try simp only [Act.put, List.getElem_toArray, List.getElem_cons_zero, List.getElem_cons_succ, List.setIfInBounds_toArray, List.set_cons_zero, List.set_cons_succ]
                    refine wpAnyH_take (i := 13) (v := ?_) rfl (by kernel_rfl) (by kernel_rfl) (by kernel_rfl) (fun _ _ _ h => h) (Or.inl ⟨by rfl, ?_⟩) (by assumption) ?_
                    rotate_left
                    · intro V hSw
                      try dsimp only at hSw
                      try simp only [List.getElem_toArray, List.getElem_cons_zero, List.getElem_cons_succ]
                      go_simp
                      first | done | rfl
                    try simp only [Act.put, List.getElem_toArray, List.getElem_cons_zero, List.getElem_cons_succ, List.setIfInBounds_toArray, List.set_cons_zero, List.set_cons_succ]
                    refine wpAnyH_done (by kernel_rfl) ?_ _
                    clear c0 c1 c2' c3 d0 d1 d2 d3 hHeld
                    cases rl with
                    | false =>
                      have HI2 : Hid (RefI l (i + 1) (insK out x k)) := by
                        have h1 := HRL.out
                        have e : k - 1 = m := by have := HMK.out; omega
                        have := HI.out.put hlt hk HV.out HNI.out HCC.out (fun y hy => by rw [HX.out]; exact HLT.out y hy) (.inr (by rw [HX.out, e, eAt_at hml]; rw [← lsE_iff, h1]; simp))
                        rw [HX.out] at this
                        exact this
                      have HO7 : Hid (w5.ownsRow w.heap.size 33 4 (.slice (some ⟨g, 0, none⟩) (out.length + 1) c2) (insK out x k).length (flat (insK out x k))) := by unfold Hid; rw [hkl]; exact HOK5.out
                      clear y0 y1 y2 y3 z0 z1 z2 z3 HOK5 HLT hkl
                      go_wp2_with fail
                      go_roundg (l.length - (i + 1))
                      case measure => omega
                      case rel => exact ⟨i + 1, _, rfl, by omega, by go_num, HO7.out, HI2.out, HB5.out⟩
                    | true =>
                      have HLT2 : Hid (∀ y ∈ out.drop m, ltE x y) := fun y hy => by
                        rw [List.drop_eq_getElem_cons hml, ← HMK.out] at hy
                        rcases List.mem_cons.1 hy with rfl | hy
                        · exact lsE_iff.1 HRL.out
                        · exact HLT.out y hy
                      have hne : g ≠ w5.heap.size := by have := (HOK5.out.lt g rfl).2; omega
                      have hgl : g < w5.heap.size := (HOK5.out.lt g rfl).2
                      have HG : Hid (w.heap.size ≤ g) := (HOK5.out.lt g rfl).1
                      have HMA := swap_a (x := x) (y := out[m]) (k := k) HOK5.out HB5.out (by omega)
                      have hfz := HOK5.out.frozenAt
                      obtain ⟨s0, s1, s2, s3⟩ := own_at4 (own_below HOK5.out ((Below.refl _ w5).alloc (Nat.le_refl _) (.cells #[.string x.p, .int .i64 x.fr, .int .i64 x.to, .string x.tx] 33))) (i := m) (by omega) hkl
                      rw [insK_lt hk hmk] at s0 s1 s2 s3
                      go_upto_region 24 with fail
                      go_cut [10, 11] from 77 to 109 (fun kv pv W => ∃ gw : Nat, kv = .int .i64 k ∧ pv = .pointer (some ⟨gw, 0, none⟩) ∧ Hid (SwapA w W g gw c2 (out.length + 1) x ((insK out x k).set k out[m])))
                      case first =>
                        go_wp2_with fail
                        go_meet
                        exact ⟨_, rfl, rfl, HMA⟩
                      case rest =>
                        obtain ⟨gw, rfl, rfl, HSA⟩ := hcut
                        have hlc : ((insK out x k).set k out[m]).length = out.length + 1 := by rw [List.length_set]; exact insK_len hk
                        have hsw : ((insK out x k).set k out[m]).set m x = insK out x m := by
                          have e := HMK.out
                          subst e
                          exact insK_swap hml
                        obtain ⟨t0, t1, t2, t3⟩ := own_at4 HSA.out.own (i := m) (by omega) hlc
                        obtain ⟨b0, b1, b2, b3⟩ : wc.cell? ⟨gw, 0, none⟩ = some (.string x.p) ∧ wc.cell? ⟨gw, 1, none⟩ = some (.int .i64 x.fr) ∧ wc.cell? ⟨gw, 2, none⟩ = some (.int .i64 x.to) ∧ wc.cell? ⟨gw, 3, none⟩ = some (.string x.tx) :=
                          ⟨by simpa using HSA.out.blk.cell 0, by simpa using HSA.out.blk.cell 1, by simpa using HSA.out.blk.cell 2, by simpa using HSA.out.blk.cell 3⟩
                        have hfz2 := HSA.out.own.frozenAt
                        have HO8 := own_set4 HSA.out.own x (i := m) (by omega)
                        rw [hsw] at HO8
                        have HQ1 := Lib.hid HO8
                        have HQ2 : Hid (Below w.heap.size w ((((wc.setCell ⟨g, m * 4, none⟩ (.string x.p)).setCell ⟨g, m * 4 + 1, none⟩ (.int .i64 x.fr)).setCell ⟨g, m * 4 + 2, none⟩ (.int .i64 x.to)).setCell ⟨g, m * 4 + 3, none⟩ (.string x.tx))) :=
                          (((HSA.out.below.setCell HG.out _).setCell HG.out _).setCell HG.out _).setCell HG.out _
                        clear HO8 hsw s0 s1 s2 s3 hfz y0 y1 y2 y3 z0 z1 z2 z3
                        go_wp2_with fail
                        go_roundg m
                        case measure => have := HMK.out; omega
                        case rel => exact ⟨m, rfl, by omega, by go_num, HQ1.out, HLT2.out, HQ2.out⟩
    · obtain rfl : i = l.length := by omega
      have HD : Hid (sortd l = out ∧ okAll (sortd l) = true) := HI.out.done
      go_wp2_with fail
      go_ret2
      refine HR.out _ _ ⟨.inl ⟨HD.out.2, _, rfl, ?_⟩, HBW.out⟩
      rw [HD.out.1]; exact HO.out
end Go.Proofs.Ytnonbonegbdfpaa
