/- spans.Moved, recastref1.Moved: one answer; recastlaw1.SpansMoved: the walk: true. -/
import Derived.Test.YtnonbonegbdfpaaSpKeepLaw
import Derived.Test.YtnonbonegbdfpaaSpRefB
namespace Go.Proofs.Ytnonbonegbdfpaa
open Go Go.RowKit

def movR (l : List Ed) (p : ByteArray) (i : Int) : Int × Bool :=
  if okAll (sortd l) = true ∧ 0 ≤ i then match mvJ (sortd l) p i (sortd l).length with | none => (0, false) | some z => (wrap64 z, true) else (0, false)
def MovRes (l : List Ed) (p : ByteArray) (i : Int) (w : World) (e : Ending) (w' : World) : Prop :=
  e = .returned (.tuple #[.int .i64 (movR l p i).1, .bool (movR l p i).2]) ∧ Below w.heap.size w w'
theorem mvJ_skip {c : List Ed} {p : ByteArray} {i z : Int} {j : Nat} (h : mvJ c p i j = some z) (hp : (eAt c j).p ≠ p) : mvJ c p i (j + 1) = some z := by
  rw [mvJ, h]; simp only; rw [if_pos hp]
theorem mvJ_far {c : List Ed} {p : ByteArray} {i z : Int} {j : Nat} (h : mvJ c p i j = some z) (h1 : i < (eAt c j).fr) (h2 : (eAt c j).fr ≤ (eAt c j).to) : mvJ c p i (j + 1) = some z := by
  rw [mvJ, h]; simp only
  split
  · rfl
  · rw [if_neg (by omega), if_neg (by omega), Int.add_zero]
theorem mvJ_add {c : List Ed} {p : ByteArray} {i z : Int} {j : Nat} (h : mvJ c p i j = some z) (hp : (eAt c j).p = p) (h1 : (eAt c j).to ≤ i) : mvJ c p i (j + 1) = some (z + (((eAt c j).tx.size : Int) - ((eAt c j).to - (eAt c j).fr))) := by
  rw [mvJ, h]; simp only
  rw [if_neg (fun h => h hp), if_neg (by omega), if_pos h1]
theorem mvJ_in {c : List Ed} {p : ByteArray} {i z : Int} {j : Nat} (h : mvJ c p i j = some z) (hj : j < c.length) (hp : (eAt c j).p = p) (h1 : (eAt c j).fr ≤ i) (h2 : i < (eAt c j).to) : mvJ c p i c.length = none := by
  have : mvJ c p i (j + 1) = none := by
    rw [mvJ, h]; simp only
    rw [if_neg (fun h => h hp), if_pos ⟨h1, h2⟩]
  have h3 := mvJ_none this (c.length - (j + 1))
  rwa [show j + 1 + (c.length - (j + 1)) = c.length from by omega] at h3
theorem movR_bad {l : List Ed} {p : ByteArray} {i : Int} (h : okAll (sortd l) = false) : movR l p i = (0, false) := by unfold movR; rw [if_neg (by rw [h]; simp)]
theorem movR_neg {l : List Ed} {p : ByteArray} {i : Int} (h : i < 0) : movR l p i = (0, false) := by unfold movR; rw [if_neg (by omega)]
theorem movR_in {l : List Ed} {p : ByteArray} {i : Int} (h : mvJ (sortd l) p i (sortd l).length = none) : movR l p i = (0, false) := by
  unfold movR
  split
  · rw [h]
  · rfl
theorem movR_out {l : List Ed} {p : ByteArray} {i z : Int} (h0 : okAll (sortd l) = true) (h1 : 0 ≤ i) (h : mvJ (sortd l) p i (sortd l).length = some z) : movR l p i = (wrap64 z, true) := by
  unfold movR
  rw [if_pos ⟨h0, h1⟩, h]

set_option maxHeartbeats 4000000 in
set_option maxRecDepth 100000 in
theorem moved_calls {l : List Ed} {p : ByteArray} {i : Int} {v : Value} {w : World} {S : Nat → Prop} (hlim : l.length * 48 ≤ 140737488355328) (h : Row w S 4 v l.length (flat l)) (hS : Old S w) (hi : -9223372036854775808 ≤ i ∧ i ≤ 9223372036854775807) :
    Calls Try.prog 20 #[v, .string p, .int .i64 i] w (MovRes l p i w) := by
  have HR : Hid (∀ e W', (∃ r, movR l p i = r ∧ e = .returned (.tuple #[.int .i64 r.1, .bool r.2]) ∧ Below w.heap.size w W') → MovRes l p i w e W') := by
    rintro e W' ⟨r, rfl, he, hb⟩; exact ⟨he, hb⟩
  obtain ⟨A, cap, rfl, hlen⟩ := h.form
  have H := Lib.hid h
  have HS := Lib.hid hS
  have HLM := Lib.hid hlim
  have HI := Lib.hid hi
  clear h hS hi
  go_enter Try.func20, Try.ntmps20
  go_wp2_with fail
  refine (sorted_calls HLM.out H.out HS.out).mono ?_
  rintro e w3 ⟨⟨hok, u, rfl, ho⟩ | ⟨hok, rfl⟩, hb3⟩
  case inr =>
    have HW3 := Lib.hid hb3
    have HK := Lib.hid hok
    clear hok hb3
    go_wp2_with fail
    go_ret2
    exact HR.out _ _ ⟨_, movR_bad HK.out, rfl, HW3.out⟩
  have HW3 := Lib.hid hb3
  have HK := Lib.hid hok
  have hz3 := hb3.size
  by_cases hneg : i < 0
  · have HN : Hid (movR l p i = (0, false)) := movR_neg hneg
    have hd : decide (i < 0) = true := decide_eq_true hneg
    clear hok hb3 hneg ho
    go_wp2_with fail
    go_ret2
    exact HR.out _ _ ⟨_, HN.out, rfl, HW3.out⟩
  have hd : decide (i < 0) = false := decide_eq_false hneg
  have HNN : Hid (0 ≤ i) := by unfold Hid; omega
  have HOUT : Hid (∀ z, mvJ (sortd l) p i (sortd l).length = some z → movR l p i = (wrap64 z, true)) := fun z h => movR_out HK.out HNN.out h
  have HIN : Hid (mvJ (sortd l) p i (sortd l).length = none → movR l p i = (0, false)) := movR_in
  have hcl : (sortd l).length ≤ l.length := sortd_len l
  obtain ⟨c, hc⟩ : ∃ c, sortd l = c := ⟨_, rfl⟩
  rw [hc] at ho hcl HOUT HIN HK
  have HO3 := Lib.hid ho
  obtain ⟨B3, b3, rfl⟩ := own_form ho
  have hcl2 : c.length ≤ 9223372036854775807 := by omega
  clear ho hb3 hc hok hneg
  go_wp2_with fail
  go_loopg [9, 26] c.length (fun d ov iv wr => ∃ (j : Nat) (z r : Int), d = c.length - j ∧ j ≤ c.length ∧ ov = .int .i64 r ∧ iv = .int .i64 j ∧ Hid (mvJ c p i j = some z) ∧ Hid (r = wrap64 z) ∧ Hid (Below w3.heap.size w3 wr))
  case atStart => exact ⟨0, i, _, by simp, by omega, rfl, rfl, rfl, (by have := HI.out; unfold Hid wrap64; omega), Below.refl _ _⟩
  case round =>
    obtain ⟨j, z, r, rfl, hj, rfl, rfl, HZ, HRZ, HBL⟩ := hrel
    have hzr := HBL.out.size
    have HOW : Hid (wr.ownsRow w.heap.size 33 4 (.slice B3 c.length b3) c.length (flat c)) := own_below HO3.out HBL.out
    have HBR : Hid (Below w.heap.size w wr) := HW3.out.trans (HBL.out.mono hz3)
    by_cases hlt : j < c.length
    · obtain ⟨g, cp, hv, -⟩ := HOW.out.form (by omega)
      cases hv
      obtain ⟨a0, a1, a2, a3⟩ := own_at4 HOW.out hlt rfl
      obtain ⟨x, hx⟩ : ∃ x, c[j] = x := ⟨_, rfl⟩
      have HX : Hid (eAt c j = x) := by unfold Hid; rw [eAt_at hlt, hx]
      have HF : Hid (0 ≤ x.fr ∧ x.fr ≤ x.to) := by have := ok_fr HK.out hlt; rw [hx] at this; exact this
      rw [hx] at a0 a1 a2 a3
      have HBX : Hid (Below w.heap.size w (wr.alloc (.cells #[.string x.p, .int .i64 x.fr, .int .i64 x.to, .string x.tx] 33))) := HBR.out.alloc (by omega) _
      have HBN : Hid (Below w3.heap.size w3 (wr.alloc (.cells #[.string x.p, .int .i64 x.fr, .int .i64 x.to, .string x.tx] 33))) := HBL.out.alloc hzr _
      clear hx
      cases hp : (x.p.toList == p.toList) with
      | false =>
        have HZ2 : Hid (mvJ c p i (j + 1) = some z) := mvJ_skip HZ.out (by rw [HX.out]; intro e; rw [e] at hp; simp at hp)
        go_wp2_with fail
        go_roundg (c.length - (j + 1))
        case measure => omega
        case rel => exact ⟨j + 1, z, r, rfl, by omega, rfl, by go_num, HZ2.out, HRZ.out, HBN.out⟩
      | true =>
        have HP : Hid (x.p = p) := beq_path hp
        by_cases h1 : i < x.fr
        · have HZ2 : Hid (mvJ c p i (j + 1) = some z) := mvJ_far HZ.out (by rw [HX.out]; exact h1) (by rw [HX.out]; exact HF.out.2)
          have hd1 : decide (i < x.fr) = true := decide_eq_true h1
          clear h1
          go_wp2_with fail
          go_roundg (c.length - (j + 1))
          case measure => omega
          case rel => exact ⟨j + 1, z, r, rfl, by omega, rfl, by go_num, HZ2.out, HRZ.out, HBN.out⟩
        · have hd1 : decide (i < x.fr) = false := decide_eq_false h1
          by_cases h2 : x.to ≤ i
          · have HZ2 : Hid (mvJ c p i (j + 1) = some (z + ((x.tx.size : Int) - (x.to - x.fr)))) := by
              have := mvJ_add HZ.out (by rw [HX.out]; exact HP.out) (by rw [HX.out]; exact h2)
              rw [HX.out] at this; exact this
            have hd2 : decide (x.to ≤ i) = true := decide_eq_true h2
            clear h1 h2
            go_wp2_with fail
            go_roundg (c.length - (j + 1))
            case measure => omega
            case rel => exact ⟨j + 1, _, _, rfl, by omega, rfl, by go_num, HZ2.out, (by have h3 := HRZ.out; unfold Hid; rw [h3]; (try simp only [IntKind.wrap_i64]); unfold wrap64; omega), HBN.out⟩
          · have HN : Hid (movR l p i = (0, false)) := HIN.out (mvJ_in HZ.out hlt (by rw [HX.out]; exact HP.out) (by rw [HX.out]; omega) (by rw [HX.out]; omega))
            have hd2 : decide (x.to ≤ i) = false := decide_eq_false h2
            clear h1 h2
            go_wp2_with fail
            go_ret2
            exact HR.out _ _ ⟨_, HN.out, rfl, HBX.out⟩
    · obtain rfl : j = c.length := by omega
      have HN : Hid (movR l p i = (r, true)) := by unfold Hid; rw [HOUT.out _ HZ.out, HRZ.out]
      go_wp2_with fail
      go_ret2
      exact HR.out _ _ ⟨_, HN.out, rfl, HBR.out⟩

set_option maxHeartbeats 4000000 in
set_option maxRecDepth 100000 in
theorem refMoved_calls {l : List Ed} {p : ByteArray} {i : Int} {v : Value} {w : World} {S : Nat → Prop} (hlim : l.length * 48 ≤ 140737488355328) (h : Row w S 4 v l.length (flat l)) (hS : Old S w) (hi : -9223372036854775808 ≤ i ∧ i ≤ 9223372036854775807) :
    Calls Try.prog 21 #[v, .string p, .int .i64 i] w (MovRes l p i w) := by
  have HR : Hid (∀ e W', (∃ r, movR l p i = r ∧ e = .returned (.tuple #[.int .i64 r.1, .bool r.2]) ∧ Below w.heap.size w W') → MovRes l p i w e W') := by
    rintro e W' ⟨r, rfl, he, hb⟩; exact ⟨he, hb⟩
  obtain ⟨A, cap, rfl, hlen⟩ := h.form
  have H := Lib.hid h
  have HS := Lib.hid hS
  have HLM := Lib.hid hlim
  have HI := Lib.hid hi
  clear h hS hi
  go_enter Try.func21, Try.ntmps21
  go_wp2_with fail
  refine (refSorted_calls HLM.out H.out HS.out).mono ?_
  rintro e w3 ⟨⟨hok, u, rfl, ho⟩ | ⟨hok, rfl⟩, hb3⟩
  case inr =>
    have HW3 := Lib.hid hb3
    have HK := Lib.hid hok
    clear hok hb3
    go_wp2_with fail
    go_ret2
    exact HR.out _ _ ⟨_, movR_bad HK.out, rfl, HW3.out⟩
  have HW3 := Lib.hid hb3
  have HK := Lib.hid hok
  have hz3 := hb3.size
  by_cases hneg : i < 0
  · have HN : Hid (movR l p i = (0, false)) := movR_neg hneg
    have hd : decide (i < 0) = true := decide_eq_true hneg
    clear hok hb3 hneg ho
    go_wp2_with fail
    go_ret2
    exact HR.out _ _ ⟨_, HN.out, rfl, HW3.out⟩
  have hd : decide (i < 0) = false := decide_eq_false hneg
  have HNN : Hid (0 ≤ i) := by unfold Hid; omega
  have HOUT : Hid (∀ z, mvJ (sortd l) p i (sortd l).length = some z → movR l p i = (wrap64 z, true)) := fun z h => movR_out HK.out HNN.out h
  have HIN : Hid (mvJ (sortd l) p i (sortd l).length = none → movR l p i = (0, false)) := movR_in
  have hcl : (sortd l).length ≤ l.length := sortd_len l
  obtain ⟨c, hc⟩ : ∃ c, sortd l = c := ⟨_, rfl⟩
  rw [hc] at ho hcl HOUT HIN HK
  have HO3 := Lib.hid ho
  obtain ⟨B3, b3, rfl⟩ := own_form ho
  have hcl2 : c.length ≤ 9223372036854775807 := by omega
  clear ho hb3 hc hok hneg
  go_wp2_with fail
  go_loopg [10, 11] c.length (fun d ov iv wr => ∃ (j : Nat) (z r : Int), d = c.length - j ∧ j ≤ c.length ∧ ov = .int .i64 r ∧ iv = .int .i64 j ∧ Hid (mvJ c p i j = some z) ∧ Hid (r = wrap64 z) ∧ Hid (Below w3.heap.size w3 wr))
  case atStart => exact ⟨0, i, _, by simp, by omega, rfl, rfl, rfl, (by have := HI.out; unfold Hid wrap64; omega), Below.refl _ _⟩
  case round =>
    obtain ⟨j, z, r, rfl, hj, rfl, rfl, HZ, HRZ, HBL⟩ := hrel
    have hzr := HBL.out.size
    have HOW : Hid (wr.ownsRow w.heap.size 33 4 (.slice B3 c.length b3) c.length (flat c)) := own_below HO3.out HBL.out
    have HBR : Hid (Below w.heap.size w wr) := HW3.out.trans (HBL.out.mono hz3)
    by_cases hlt : j < c.length
    · obtain ⟨g, cp, hv, -⟩ := HOW.out.form (by omega)
      cases hv
      obtain ⟨a0, a1, a2, a3⟩ := own_at4 HOW.out hlt rfl
      obtain ⟨x, hx⟩ : ∃ x, c[j] = x := ⟨_, rfl⟩
      have HX : Hid (eAt c j = x) := by unfold Hid; rw [eAt_at hlt, hx]
      have HF : Hid (0 ≤ x.fr ∧ x.fr ≤ x.to) := by have := ok_fr HK.out hlt; rw [hx] at this; exact this
      rw [hx] at a0 a1 a2 a3
      clear hx
      cases hp : (x.p.toList == p.toList) with
      | false =>
        have HZ2 : Hid (mvJ c p i (j + 1) = some z) := mvJ_skip HZ.out (by rw [HX.out]; intro e; rw [e] at hp; simp at hp)
        go_wp2_with fail
        go_roundg (c.length - (j + 1))
        case measure => omega
        case rel => exact ⟨j + 1, z, r, rfl, by omega, rfl, by go_num, HZ2.out, HRZ.out, HBL.out⟩
      | true =>
        have HP : Hid (x.p = p) := beq_path hp
        by_cases h1 : i < x.fr
        · have HZ2 : Hid (mvJ c p i (j + 1) = some z) := mvJ_far HZ.out (by rw [HX.out]; exact h1) (by rw [HX.out]; exact HF.out.2)
          have hd1 : decide (x.fr ≤ i) = false := decide_eq_false (by omega)
          have hd3 : decide (x.to ≤ i) = false := decide_eq_false (by have := HF.out; omega)
          clear h1
          go_wp2_with fail
          go_roundg (c.length - (j + 1))
          case measure => omega
          case rel => exact ⟨j + 1, z, r, rfl, by omega, rfl, by go_num, HZ2.out, HRZ.out, HBL.out⟩
        · have hd1 : decide (x.fr ≤ i) = true := decide_eq_true (by omega)
          by_cases h2 : x.to ≤ i
          · have HZ2 : Hid (mvJ c p i (j + 1) = some (z + ((x.tx.size : Int) - (x.to - x.fr)))) := by
              have := mvJ_add HZ.out (by rw [HX.out]; exact HP.out) (by rw [HX.out]; exact h2)
              rw [HX.out] at this; exact this
            have hd2 : decide (x.to ≤ i) = true := decide_eq_true h2
            have hd3 : decide (i < x.to) = false := decide_eq_false (by omega)
            clear h1 h2
            go_wp2_with fail
            go_quiet (fail)
            go_wp2_with fail
            go_roundg (c.length - (j + 1))
            case measure => omega
            case rel => exact ⟨j + 1, _, _, rfl, by omega, rfl, by go_num, HZ2.out, (by have h3 := HRZ.out; unfold Hid; rw [h3]; (try simp only [IntKind.wrap_i64]); unfold wrap64; omega), below_drewN HBL.out _⟩
          · have HN : Hid (movR l p i = (0, false)) := HIN.out (mvJ_in HZ.out hlt (by rw [HX.out]; exact HP.out) (by rw [HX.out]; omega) (by rw [HX.out]; omega))
            have hd2 : decide (x.to ≤ i) = false := decide_eq_false h2
            have hd3 : decide (i < x.to) = true := decide_eq_true (by omega)
            clear h1 h2
            go_wp2_with fail
            go_ret2
            exact HR.out _ _ ⟨_, HN.out, rfl, HBR.out⟩
    · obtain rfl : j = c.length := by omega
      have HN : Hid (movR l p i = (r, true)) := by unfold Hid; rw [HOUT.out _ HZ.out, HRZ.out]
      go_wp2_with fail
      go_ret2
      exact HR.out _ _ ⟨_, HN.out, rfl, HBR.out⟩

set_option maxHeartbeats 4000000 in
set_option maxRecDepth 100000 in
theorem spansMoved_walk {l : List Ed} {p : ByteArray} {i : Int} {v : Value} {w : World} (hlim : l.length * 48 ≤ 140737488355328) (h : Row w (fun b => b < w.heap.size) 4 v l.length (flat l)) (hi : -9223372036854775808 ≤ i ∧ i ≤ 9223372036854775807) :
    Calls Try.prog 7 #[v, .string p, .int .i64 i] w fun e w' => e = .returned (.bool true) ∧ Below w.heap.size w w' := by
  have HA : Hid (∀ w, Calls Try.prog 11 #[] w fun e w' => e = .returned (.bool true) ∧ Below w.heap.size w w') := fun w => awake_calls
  obtain ⟨A, cap, rfl, hlen⟩ := h.form
  have H := Lib.hid h
  have HLM := Lib.hid hlim
  have HI := Lib.hid hi
  clear h hi hlim
  go_enter Try.func7, Try.ntmps7
  go_wp2_with fail
  refine (much_calls H.out HLM.out).mono ?_
  rintro e w1 ⟨⟨r, rfl⟩, hb1⟩
  have HW1 := Lib.hid hb1
  have hz1 := hb1.size
  clear hb1
  cases r with
  | true =>
    go_wp2_with (go_at_call 11; refine (HA.out _).mono ?_; rintro e w' ⟨rfl, hb⟩)
    go_ret
    exact ⟨by simp, HW1.out.trans (hb.mono hz1)⟩
  | false =>
    have HR1 : Hid (Row w1 (fun b => b < w.heap.size) 4 (.slice A l.length cap) l.length (flat l)) := H.out.keep (SameOn.of_below HW1.out (fun b hb => hb))
    go_wp2_with fail
    refine (moved_calls (l := l) (p := p) (i := i) HLM.out HR1.out (fun b hb => Nat.lt_of_lt_of_le hb hz1) HI.out).mono ?_
    rintro e w2 ⟨rfl, hb2⟩
    have HW2 : Hid (Below w.heap.size w w2) := HW1.out.trans (hb2.mono hz1)
    have hz2 := HW2.out.size
    have HR2 : Hid (Row w2 (fun b => b < w.heap.size) 4 (.slice A l.length cap) l.length (flat l)) := H.out.keep (SameOn.of_below HW2.out (fun b hb => hb))
    have HM := refMoved_calls (l := l) (p := p) (i := i) HLM.out HR2.out (fun b hb => Nat.lt_of_lt_of_le hb hz2) HI.out
    unfold MovRes at HM
    generalize movR l p i = rr at HM ⊢
    have HMH := Lib.hid HM
    obtain ⟨rz, rb⟩ := rr
    clear hb2 HR1 HM
    go_wp2_with fail
    refine HMH.out.mono ?_
    rintro e w3 ⟨rfl, hb3⟩
    have HW3 : Hid (Below w.heap.size w w3) := HW2.out.trans (hb3.mono hz2)
    have hz3 := HW3.out.size
    clear hb3 HMH
    go_wp2_with (go_at_call 11; refine (HA.out _).mono ?_; rintro e w' ⟨rfl, hb⟩)
    go_ret
    exact ⟨by simp, HW3.out.trans (hb.mono hz3)⟩
end Go.Proofs.Ytnonbonegbdfpaa
