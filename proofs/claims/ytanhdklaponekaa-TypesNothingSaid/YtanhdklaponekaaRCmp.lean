/- recastref8.World.Comparable without declared types: the walk. -/
import Derived.Test.YtanhdklaponekaaCmp
namespace Go.Proofs.Ytanhdklaponekaa
open Go Go.RowKit

/-- the document's Comparable's contract at t -/
def RCmpAt (f : T → Bool) (t : T) : Prop := ∀ (cs : List Value) (w : World) (S : Nat → Prop) (g : Nat), TyR w S t cs → Old S w → g < w.heap.size → NoW w g →
  Calls Try.prog 26 #[.pointer (some ⟨g, 0, none⟩), .agg cs.toArray] w fun e w' => e = .returned (.bool (f t)) ∧ Below w.heap.size w w'

theorem NoW.below {w w' : World} {g B : Nat} (h : NoW w g) (hb : Below B w w') (hg : g < B) : NoW w' g := (cell_below hb hg).trans h

set_option maxHeartbeats 1000000 in
set_option maxRecDepth 100000 in
theorem rcmp_1 {f : T → Bool} {t : T} (e : t.kd = 1) : RCmpAt (cmpB f) t := by
  intro cs w S g h hS hg hw
  obtain ⟨A1, c1, A2, c2, A3, c3, rfl, -, -, hk⟩ := h.forms
  have hlen : t.ks.length ≤ 9223372036854775807 := by obtain ⟨_, _, _, h⟩ := hk.form; exact h
  have H := Lib.hid h
  have HK := Lib.hid hk
  have HS := Lib.hid hS
  have HW := Lib.hid hw
  clear h hS hk hw
  have HF : Hid (cmpB f t = true) := by unfold Hid cmpB; rw [if_pos (by omega)]
  have b1 : (t.kd == 1) = true := by rw [e]; rfl
  clear e
  go_enter Try.func26, Try.ntmps26
  go_wp2_with fail
  refine (runder_none (g := g) (by simp; omega) (HW.out.below ((Below.refl _ _).alloc (Nat.le_refl _) _) hg)).mono ?_
  rintro e w1 ⟨rfl, hb1⟩
  have hz1 := hb1.size
  simp at hz1
  have HX : Hid (Below w.heap.size w w1) := ((Below.refl _ _).alloc (Nat.le_refl _) _).trans (hb1.mono (by simp))
  clear hb1
  go_wp2_with fail
  go_ret
  exact ⟨by rw [HF.out]; rfl, HX.out.alloc (by omega) _⟩

set_option maxHeartbeats 1000000 in
set_option maxRecDepth 100000 in
theorem rcmp_2 {f : T → Bool} {t : T} (e : t.kd = 2) : RCmpAt (cmpB f) t := by
  intro cs w S g h hS hg hw
  obtain ⟨A1, c1, A2, c2, A3, c3, rfl, -, -, hk⟩ := h.forms
  have hlen : t.ks.length ≤ 9223372036854775807 := by obtain ⟨_, _, _, h⟩ := hk.form; exact h
  have H := Lib.hid h
  have HK := Lib.hid hk
  have HS := Lib.hid hS
  have HW := Lib.hid hw
  clear h hS hk hw
  have HF : Hid (cmpB f t = true) := by unfold Hid cmpB; rw [if_pos (by omega)]
  have b1 : (t.kd == 1) = false := by rw [e]; rfl
  have b2 : (t.kd == 2) = true := by rw [e]; rfl
  clear e
  go_enter Try.func26, Try.ntmps26
  go_wp2_with fail
  refine (runder_none (g := g) (by simp; omega) (HW.out.below ((Below.refl _ _).alloc (Nat.le_refl _) _) hg)).mono ?_
  rintro e w1 ⟨rfl, hb1⟩
  have hz1 := hb1.size
  simp at hz1
  have HX : Hid (Below w.heap.size w w1) := ((Below.refl _ _).alloc (Nat.le_refl _) _).trans (hb1.mono (by simp))
  clear hb1
  go_wp2_with fail
  go_ret
  exact ⟨by rw [HF.out]; rfl, HX.out.alloc (by omega) _⟩

set_option maxHeartbeats 1000000 in
set_option maxRecDepth 100000 in
theorem rcmp_3 {f : T → Bool} {t : T} (e : t.kd = 3) : RCmpAt (cmpB f) t := by
  intro cs w S g h hS hg hw
  obtain ⟨A1, c1, A2, c2, A3, c3, rfl, -, -, hk⟩ := h.forms
  have hlen : t.ks.length ≤ 9223372036854775807 := by obtain ⟨_, _, _, h⟩ := hk.form; exact h
  have H := Lib.hid h
  have HK := Lib.hid hk
  have HS := Lib.hid hS
  have HW := Lib.hid hw
  clear h hS hk hw
  have HF : Hid (cmpB f t = true) := by unfold Hid cmpB; rw [if_pos (by omega)]
  have b1 : (t.kd == 1) = false := by rw [e]; rfl
  have b2 : (t.kd == 2) = false := by rw [e]; rfl
  have b3 : (t.kd == 3) = true := by rw [e]; rfl
  clear e
  go_enter Try.func26, Try.ntmps26
  go_wp2_with fail
  refine (runder_none (g := g) (by simp; omega) (HW.out.below ((Below.refl _ _).alloc (Nat.le_refl _) _) hg)).mono ?_
  rintro e w1 ⟨rfl, hb1⟩
  have hz1 := hb1.size
  simp at hz1
  have HX : Hid (Below w.heap.size w w1) := ((Below.refl _ _).alloc (Nat.le_refl _) _).trans (hb1.mono (by simp))
  clear hb1
  go_wp2_with fail
  go_ret
  exact ⟨by rw [HF.out]; rfl, HX.out.alloc (by omega) _⟩

set_option maxHeartbeats 1000000 in
set_option maxRecDepth 100000 in
theorem rcmp_4 {f : T → Bool} {t : T} (e : t.kd = 4) : RCmpAt (cmpB f) t := by
  intro cs w S g h hS hg hw
  obtain ⟨A1, c1, A2, c2, A3, c3, rfl, -, -, hk⟩ := h.forms
  have hlen : t.ks.length ≤ 9223372036854775807 := by obtain ⟨_, _, _, h⟩ := hk.form; exact h
  have H := Lib.hid h
  have HK := Lib.hid hk
  have HS := Lib.hid hS
  have HW := Lib.hid hw
  clear h hS hk hw
  have HF : Hid (cmpB f t = true) := by unfold Hid cmpB; rw [if_pos (by omega)]
  have b1 : (t.kd == 1) = false := by rw [e]; rfl
  have b2 : (t.kd == 2) = false := by rw [e]; rfl
  have b3 : (t.kd == 3) = false := by rw [e]; rfl
  have b4 : (t.kd == 4) = true := by rw [e]; rfl
  clear e
  go_enter Try.func26, Try.ntmps26
  go_wp2_with fail
  refine (runder_none (g := g) (by simp; omega) (HW.out.below ((Below.refl _ _).alloc (Nat.le_refl _) _) hg)).mono ?_
  rintro e w1 ⟨rfl, hb1⟩
  have hz1 := hb1.size
  simp at hz1
  have HX : Hid (Below w.heap.size w w1) := ((Below.refl _ _).alloc (Nat.le_refl _) _).trans (hb1.mono (by simp))
  clear hb1
  go_wp2_with fail
  go_ret
  exact ⟨by rw [HF.out]; rfl, HX.out.alloc (by omega) _⟩

set_option maxHeartbeats 1000000 in
set_option maxRecDepth 100000 in
theorem rcmp_5 {f : T → Bool} {t : T} (e : t.kd = 5) : RCmpAt (cmpB f) t := by
  intro cs w S g h hS hg hw
  obtain ⟨A1, c1, A2, c2, A3, c3, rfl, -, -, hk⟩ := h.forms
  have hlen : t.ks.length ≤ 9223372036854775807 := by obtain ⟨_, _, _, h⟩ := hk.form; exact h
  have H := Lib.hid h
  have HK := Lib.hid hk
  have HS := Lib.hid hS
  have HW := Lib.hid hw
  clear h hS hk hw
  have HF : Hid (cmpB f t = true) := by unfold Hid cmpB; rw [if_pos (by omega)]
  have b1 : (t.kd == 1) = false := by rw [e]; rfl
  have b2 : (t.kd == 2) = false := by rw [e]; rfl
  have b3 : (t.kd == 3) = false := by rw [e]; rfl
  have b4 : (t.kd == 4) = false := by rw [e]; rfl
  have b5 : (t.kd == 5) = true := by rw [e]; rfl
  clear e
  go_enter Try.func26, Try.ntmps26
  go_wp2_with fail
  refine (runder_none (g := g) (by simp; omega) (HW.out.below ((Below.refl _ _).alloc (Nat.le_refl _) _) hg)).mono ?_
  rintro e w1 ⟨rfl, hb1⟩
  have hz1 := hb1.size
  simp at hz1
  have HX : Hid (Below w.heap.size w w1) := ((Below.refl _ _).alloc (Nat.le_refl _) _).trans (hb1.mono (by simp))
  clear hb1
  go_wp2_with fail
  go_ret
  exact ⟨by rw [HF.out]; rfl, HX.out.alloc (by omega) _⟩

set_option maxHeartbeats 1000000 in
set_option maxRecDepth 100000 in
theorem rcmp_6 {f : T → Bool} {t : T} (e : t.kd = 6) : RCmpAt (cmpB f) t := by
  intro cs w S g h hS hg hw
  obtain ⟨A1, c1, A2, c2, A3, c3, rfl, -, -, hk⟩ := h.forms
  have hlen : t.ks.length ≤ 9223372036854775807 := by obtain ⟨_, _, _, h⟩ := hk.form; exact h
  have H := Lib.hid h
  have HK := Lib.hid hk
  have HS := Lib.hid hS
  have HW := Lib.hid hw
  clear h hS hk hw
  have HF : Hid (cmpB f t = true) := by unfold Hid cmpB; rw [if_pos (by omega)]
  have b1 : (t.kd == 1) = false := by rw [e]; rfl
  have b2 : (t.kd == 2) = false := by rw [e]; rfl
  have b3 : (t.kd == 3) = false := by rw [e]; rfl
  have b4 : (t.kd == 4) = false := by rw [e]; rfl
  have b5 : (t.kd == 5) = false := by rw [e]; rfl
  have b6 : (t.kd == 6) = true := by rw [e]; rfl
  clear e
  go_enter Try.func26, Try.ntmps26
  go_wp2_with fail
  refine (runder_none (g := g) (by simp; omega) (HW.out.below ((Below.refl _ _).alloc (Nat.le_refl _) _) hg)).mono ?_
  rintro e w1 ⟨rfl, hb1⟩
  have hz1 := hb1.size
  simp at hz1
  have HX : Hid (Below w.heap.size w w1) := ((Below.refl _ _).alloc (Nat.le_refl _) _).trans (hb1.mono (by simp))
  clear hb1
  go_wp2_with fail
  go_ret
  exact ⟨by rw [HF.out]; rfl, HX.out.alloc (by omega) _⟩

set_option maxHeartbeats 1000000 in
set_option maxRecDepth 100000 in
theorem rcmp_10 {f : T → Bool} {t : T} (e : t.kd = 10) : RCmpAt (cmpB f) t := by
  intro cs w S g h hS hg hw
  obtain ⟨A1, c1, A2, c2, A3, c3, rfl, -, -, hk⟩ := h.forms
  have hlen : t.ks.length ≤ 9223372036854775807 := by obtain ⟨_, _, _, h⟩ := hk.form; exact h
  have H := Lib.hid h
  have HK := Lib.hid hk
  have HS := Lib.hid hS
  have HW := Lib.hid hw
  clear h hS hk hw
  have HF : Hid (cmpB f t = true) := by unfold Hid cmpB; rw [if_pos (by omega)]
  have b1 : (t.kd == 1) = false := by rw [e]; rfl
  have b2 : (t.kd == 2) = false := by rw [e]; rfl
  have b3 : (t.kd == 3) = false := by rw [e]; rfl
  have b4 : (t.kd == 4) = false := by rw [e]; rfl
  have b5 : (t.kd == 5) = false := by rw [e]; rfl
  have b6 : (t.kd == 6) = false := by rw [e]; rfl
  have b10 : (t.kd == 10) = true := by rw [e]; rfl
  clear e
  go_enter Try.func26, Try.ntmps26
  go_wp2_with fail
  refine (runder_none (g := g) (by simp; omega) (HW.out.below ((Below.refl _ _).alloc (Nat.le_refl _) _) hg)).mono ?_
  rintro e w1 ⟨rfl, hb1⟩
  have hz1 := hb1.size
  simp at hz1
  have HX : Hid (Below w.heap.size w w1) := ((Below.refl _ _).alloc (Nat.le_refl _) _).trans (hb1.mono (by simp))
  clear hb1
  go_wp2_with fail
  go_ret
  exact ⟨by rw [HF.out]; rfl, HX.out.alloc (by omega) _⟩

set_option maxHeartbeats 1000000 in
set_option maxRecDepth 100000 in
theorem rcmp_12 {f : T → Bool} {t : T} (e : t.kd = 12) : RCmpAt (cmpB f) t := by
  intro cs w S g h hS hg hw
  obtain ⟨A1, c1, A2, c2, A3, c3, rfl, -, -, hk⟩ := h.forms
  have hlen : t.ks.length ≤ 9223372036854775807 := by obtain ⟨_, _, _, h⟩ := hk.form; exact h
  have H := Lib.hid h
  have HK := Lib.hid hk
  have HS := Lib.hid hS
  have HW := Lib.hid hw
  clear h hS hk hw
  have HF : Hid (cmpB f t = true) := by unfold Hid cmpB; rw [if_pos (by omega)]
  have b1 : (t.kd == 1) = false := by rw [e]; rfl
  have b2 : (t.kd == 2) = false := by rw [e]; rfl
  have b3 : (t.kd == 3) = false := by rw [e]; rfl
  have b4 : (t.kd == 4) = false := by rw [e]; rfl
  have b5 : (t.kd == 5) = false := by rw [e]; rfl
  have b6 : (t.kd == 6) = false := by rw [e]; rfl
  have b10 : (t.kd == 10) = false := by rw [e]; rfl
  have b12 : (t.kd == 12) = true := by rw [e]; rfl
  clear e
  go_enter Try.func26, Try.ntmps26
  go_wp2_with fail
  refine (runder_none (g := g) (by simp; omega) (HW.out.below ((Below.refl _ _).alloc (Nat.le_refl _) _) hg)).mono ?_
  rintro e w1 ⟨rfl, hb1⟩
  have hz1 := hb1.size
  simp at hz1
  have HX : Hid (Below w.heap.size w w1) := ((Below.refl _ _).alloc (Nat.le_refl _) _).trans (hb1.mono (by simp))
  clear hb1
  go_wp2_with fail
  go_ret
  exact ⟨by rw [HF.out]; rfl, HX.out.alloc (by omega) _⟩

set_option maxHeartbeats 1000000 in
set_option maxRecDepth 100000 in
theorem rcmp_15 {f : T → Bool} {t : T} (e : t.kd = 15) : RCmpAt (cmpB f) t := by
  intro cs w S g h hS hg hw
  obtain ⟨A1, c1, A2, c2, A3, c3, rfl, -, -, hk⟩ := h.forms
  have hlen : t.ks.length ≤ 9223372036854775807 := by obtain ⟨_, _, _, h⟩ := hk.form; exact h
  have H := Lib.hid h
  have HK := Lib.hid hk
  have HS := Lib.hid hS
  have HW := Lib.hid hw
  clear h hS hk hw
  have HF : Hid (cmpB f t = true) := by unfold Hid cmpB; rw [if_pos (by omega)]
  have b1 : (t.kd == 1) = false := by rw [e]; rfl
  have b2 : (t.kd == 2) = false := by rw [e]; rfl
  have b3 : (t.kd == 3) = false := by rw [e]; rfl
  have b4 : (t.kd == 4) = false := by rw [e]; rfl
  have b5 : (t.kd == 5) = false := by rw [e]; rfl
  have b6 : (t.kd == 6) = false := by rw [e]; rfl
  have b10 : (t.kd == 10) = false := by rw [e]; rfl
  have b12 : (t.kd == 12) = false := by rw [e]; rfl
  have b15 : (t.kd == 15) = true := by rw [e]; rfl
  clear e
  go_enter Try.func26, Try.ntmps26
  go_wp2_with fail
  refine (runder_none (g := g) (by simp; omega) (HW.out.below ((Below.refl _ _).alloc (Nat.le_refl _) _) hg)).mono ?_
  rintro e w1 ⟨rfl, hb1⟩
  have hz1 := hb1.size
  simp at hz1
  have HX : Hid (Below w.heap.size w w1) := ((Below.refl _ _).alloc (Nat.le_refl _) _).trans (hb1.mono (by simp))
  clear hb1
  go_wp2_with fail
  go_ret
  exact ⟨by rw [HF.out]; rfl, HX.out.alloc (by omega) _⟩

set_option maxHeartbeats 1000000 in
set_option maxRecDepth 100000 in
theorem rcmp_14 {f : T → Bool} {t : T} (ih : ∀ k ∈ t.ks, RCmpAt f k) (e : t.kd = 14) : RCmpAt (cmpB f) t := by
  intro cs w S g h hS hg hw
  obtain ⟨A1, c1, A2, c2, A3, c3, rfl, -, -, hk⟩ := h.forms
  have hlen : t.ks.length ≤ 9223372036854775807 := by obtain ⟨_, _, _, h⟩ := hk.form; exact h
  have H := Lib.hid h
  have HK := Lib.hid hk
  have HS := Lib.hid hS
  have HW := Lib.hid hw
  clear h hS hk hw
  have HF : Hid (cmpB f t = t.ks.all f) := by unfold Hid cmpB; rw [if_neg (by omega), if_pos e]
  have IH := Lib.hid ih
  have b1 : (t.kd == 1) = false := by rw [e]; rfl
  have b2 : (t.kd == 2) = false := by rw [e]; rfl
  have b3 : (t.kd == 3) = false := by rw [e]; rfl
  have b4 : (t.kd == 4) = false := by rw [e]; rfl
  have b5 : (t.kd == 5) = false := by rw [e]; rfl
  have b6 : (t.kd == 6) = false := by rw [e]; rfl
  have b10 : (t.kd == 10) = false := by rw [e]; rfl
  have b12 : (t.kd == 12) = false := by rw [e]; rfl
  have b15 : (t.kd == 15) = false := by rw [e]; rfl
  have b14 : (t.kd == 14) = true := by rw [e]; rfl
  clear ih e
  go_enter Try.func26, Try.ntmps26
  go_wp2_with fail
  refine (runder_none (g := g) (by simp; omega) (HW.out.below ((Below.refl _ _).alloc (Nat.le_refl _) _) hg)).mono ?_
  rintro e w1 ⟨rfl, hb1⟩
  have hz1 := hb1.size
  simp at hz1
  have HX : Hid (Below w.heap.size w w1) := ((Below.refl _ _).alloc (Nat.le_refl _) _).trans (hb1.mono (by simp))
  clear hb1
  go_wp2_with fail
  go_loopg [6] t.ks.length (fun d i wr => ∃ (j : Nat), d = t.ks.length - j ∧ j ≤ t.ks.length ∧ i = .int .i64 j ∧ Hid (∀ k (h : k < t.ks.length), k < j → f t.ks[k] = true) ∧ Hid (Below (w1.heap.size + 1) (w1.alloc (.cells #[.int .i64 t.kd, .string t.nm, .int .i64 t.n, .bool t.fl, .slice A1 t.ns.length c1, .slice A2 t.ms.length c2, .slice A3 t.ks.length c3] 26)) wr))
  case atStart => exact ⟨0, by simp, by omega, rfl, (fun k h h' => absurd h' (by omega)), Below.refl _ _⟩
  case round =>
    obtain ⟨j, rfl, hj, rfl, HSH, HBL⟩ := hrel
    have hzr := HBL.out.size
    simp at hzr
    have HWR : Hid (Below w.heap.size w wr) := (HX.out.alloc (by omega) _).trans (HBL.out.mono (by omega))
    have HSX : Hid (SameOn S w wr) := SameOn.of_below HWR.out HS.out
    have HSR : Hid (Old S wr) := HS.out.below HWR.out
    have hu : w1.heap.size < wr.heap.size := by omega
    obtain ⟨q0, q1, q2, q3, q4, q5, q6, qf⟩ := ((Blk.new w1 26 #[.int .i64 t.kd, .string t.nm, .int .i64 t.n, .bool t.fl, .slice A1 t.ns.length c1, .slice A2 t.ms.length c2, .slice A3 t.ks.length c3]).below HBL.out (by omega)).cells7
    by_cases hlt : j < t.ks.length
    · have hr := HK.out.keep HSX.out (fun _ h => h)
      obtain ⟨b, o, c, B1, d1, B2, d2, B3, d3, hv, hSb, ⟨g0, g1, g2, g3, g4, g5, g6⟩, hkr⟩ := hr.at_ hlt
      cases hv
      have HKR := Lib.hid hkr
      clear hkr hr
      go_wp2_with fail
      refine (IH.out _ (List.getElem_mem hlt) [.int .i64 t.ks[j].kd, .string t.ks[j].nm, .int .i64 t.ks[j].n, .bool t.ks[j].fl, .slice B1 t.ks[j].ns.length d1, .slice B2 t.ks[j].ms.length d2, .slice B3 t.ks[j].ks.length d3] _ S g HKR.out HSR.out (by omega) (HW.out.below HWR.out hg)).mono ?_
      rintro e w2 ⟨rfl, hb2⟩
      have hz2 := hb2.size
      have HB2 : Hid (Below (w1.heap.size + 1) (w1.alloc (.cells #[.int .i64 t.kd, .string t.nm, .int .i64 t.n, .bool t.fl, .slice A1 t.ns.length c1, .slice A2 t.ms.length c2, .slice (some ⟨b, o, none⟩) t.ks.length c3] 26)) w2) := HBL.out.trans (hb2.mono (by omega))
      have HBW : Hid (Below w.heap.size w w2) := HWR.out.trans (hb2.mono (by omega))
      clear hb2
      cases hf : f t.ks[j] with
      | false =>
        have HA : Hid (t.ks.all f = false) := all_at hlt hf
        clear hf
        go_wp2_with fail
        go_ret
        exact ⟨by rw [HF.out, HA.out]; rfl, HBW.out⟩
      | true =>
        have HSN : Hid (∀ k (h : k < t.ks.length), k < j + 1 → f t.ks[k] = true) := fun k h h' => by
          by_cases e : k < j
          · exact HSH.out k h e
          · obtain rfl : k = j := by omega
            exact hf
        clear HSH hf
        go_wp2_with fail
        go_roundg (t.ks.length - (j + 1))
        case measure => omega
        case rel => exact ⟨j + 1, rfl, by omega, by go_num, HSN, HB2⟩
    · obtain rfl : j = t.ks.length := by omega
      have HA : Hid (t.ks.all f = true) := all_pre HSH.out rfl
      clear HSH
      go_wp2_with fail
      go_ret
      exact ⟨by rw [HF.out, HA.out]; rfl, HWR.out⟩

set_option maxHeartbeats 1000000 in
set_option maxRecDepth 100000 in
theorem rcmp_9_f {f : T → Bool} {t : T} (e : t.kd = 9) (hl : t.ks.length = 1) (h16 : ¬(t.kid 0).kd = 16) : RCmpAt (cmpB f) t := by
  intro cs w S g h hS hg hw
  obtain ⟨A1, c1, A2, c2, A3, c3, rfl, -, -, hk⟩ := h.forms
  have hlen : t.ks.length ≤ 9223372036854775807 := by obtain ⟨_, _, _, h⟩ := hk.form; exact h
  have H := Lib.hid h
  have HK := Lib.hid hk
  have HS := Lib.hid hS
  have HW := Lib.hid hw
  clear h hS hk hw
  have HF : Hid (cmpB f t = false) := by unfold Hid cmpB; rw [if_neg (by omega), if_neg (by omega), if_neg (fun h => h16 h.2)]
  have h0 : 0 < t.ks.length := by omega
  have hk0 : t.kid 0 = t.ks[0] := T.kid_at h0
  have hne : ¬t.ks = [] := by intro e'; rw [e'] at h0; exact absurd h0 (by simp)
  have hbl : ((t.ks.length : Int) != 1) = false := by simp; omega
  have hb16 : (t.ks[0].kd != 16) = true := by rw [← hk0]; simpa using h16
  have b1 : (t.kd == 1) = false := by rw [e]; rfl
  have b2 : (t.kd == 2) = false := by rw [e]; rfl
  have b3 : (t.kd == 3) = false := by rw [e]; rfl
  have b4 : (t.kd == 4) = false := by rw [e]; rfl
  have b5 : (t.kd == 5) = false := by rw [e]; rfl
  have b6 : (t.kd == 6) = false := by rw [e]; rfl
  have b10 : (t.kd == 10) = false := by rw [e]; rfl
  have b12 : (t.kd == 12) = false := by rw [e]; rfl
  have b15 : (t.kd == 15) = false := by rw [e]; rfl
  have b14 : (t.kd == 14) = false := by rw [e]; rfl
  have b9 : (t.kd == 9) = true := by rw [e]; rfl
  clear e h16 hk0 hl
  go_enter Try.func26, Try.ntmps26
  go_wp2_with fail
  refine (runder_none (g := g) (by simp; omega) (HW.out.below ((Below.refl _ _).alloc (Nat.le_refl _) _) hg)).mono ?_
  rintro e w1 ⟨rfl, hb1⟩
  have hz1 := hb1.size
  simp at hz1
  have HX : Hid (Below w.heap.size w w1) := ((Below.refl _ _).alloc (Nat.le_refl _) _).trans (hb1.mono (by simp))
  clear hb1
  obtain ⟨b, o, c, B1, d1, B2, d2, B3, d3, hv, hSb, ⟨g0, g1, g2, g3, g4, g5, g6⟩, hkr⟩ := (HK.out.keep (SameOn.of_below HX.out HS.out) (fun _ h => h)).at_ h0
  cases hv
  simp only [Nat.zero_mul, Nat.add_zero] at g0 g1 g2 g3 g4 g5 g6
  have hbb := (HS.out.below HX.out) b hSb
  have HKR := Lib.hid hkr
  clear hkr
  go_wp2_with fail
  go_ret
  exact ⟨by rw [HF.out]; rfl, HX.out.alloc (by omega) _⟩

set_option maxHeartbeats 1000000 in
set_option maxRecDepth 100000 in
theorem rcmp_9_t {f : T → Bool} {t : T} (e : t.kd = 9) (hl : t.ks.length = 1) (h16 : (t.kid 0).kd = 16) (h1 : (t.kid 0).n = 1) : RCmpAt (cmpB f) t := by
  intro cs w S g h hS hg hw
  obtain ⟨A1, c1, A2, c2, A3, c3, rfl, -, -, hk⟩ := h.forms
  have hlen : t.ks.length ≤ 9223372036854775807 := by obtain ⟨_, _, _, h⟩ := hk.form; exact h
  have H := Lib.hid h
  have HK := Lib.hid hk
  have HS := Lib.hid hS
  have HW := Lib.hid hw
  clear h hS hk hw
  have HF : Hid (cmpB f t = true) := by unfold Hid cmpB; rw [if_neg (by omega), if_neg (by omega), if_pos ⟨e, h16⟩, decide_eq_true h1]; rfl
  have h0 : 0 < t.ks.length := by omega
  have hk0 : t.kid 0 = t.ks[0] := T.kid_at h0
  have hne : ¬t.ks = [] := by intro e'; rw [e'] at h0; exact absurd h0 (by simp)
  have hbl : ((t.ks.length : Int) != 1) = false := by simp; omega
  have hb16 : (t.ks[0].kd != 16) = false := by rw [← hk0]; simpa using h16
  have hb1 : (t.ks[0].n == 1) = true := by rw [← hk0]; simpa using h1
  have b1 : (t.kd == 1) = false := by rw [e]; rfl
  have b2 : (t.kd == 2) = false := by rw [e]; rfl
  have b3 : (t.kd == 3) = false := by rw [e]; rfl
  have b4 : (t.kd == 4) = false := by rw [e]; rfl
  have b5 : (t.kd == 5) = false := by rw [e]; rfl
  have b6 : (t.kd == 6) = false := by rw [e]; rfl
  have b10 : (t.kd == 10) = false := by rw [e]; rfl
  have b12 : (t.kd == 12) = false := by rw [e]; rfl
  have b15 : (t.kd == 15) = false := by rw [e]; rfl
  have b14 : (t.kd == 14) = false := by rw [e]; rfl
  have b9 : (t.kd == 9) = true := by rw [e]; rfl
  clear e h16 hk0 h1 hl
  go_enter Try.func26, Try.ntmps26
  go_wp2_with fail
  refine (runder_none (g := g) (by simp; omega) (HW.out.below ((Below.refl _ _).alloc (Nat.le_refl _) _) hg)).mono ?_
  rintro e w1 ⟨rfl, hb1⟩
  have hz1 := hb1.size
  simp at hz1
  have HX : Hid (Below w.heap.size w w1) := ((Below.refl _ _).alloc (Nat.le_refl _) _).trans (hb1.mono (by simp))
  clear hb1
  obtain ⟨b, o, c, B1, d1, B2, d2, B3, d3, hv, hSb, ⟨g0, g1, g2, g3, g4, g5, g6⟩, hkr⟩ := (HK.out.keep (SameOn.of_below HX.out HS.out) (fun _ h => h)).at_ h0
  cases hv
  simp only [Nat.zero_mul, Nat.add_zero] at g0 g1 g2 g3 g4 g5 g6
  have hbb := (HS.out.below HX.out) b hSb
  have HKR := Lib.hid hkr
  clear hkr
  go_wp2_with fail
  go_ret
  exact ⟨by rw [HF.out]; rfl, (HX.out.alloc (by omega) _).alloc (by simp; omega) _⟩

set_option maxHeartbeats 1000000 in
set_option maxRecDepth 100000 in
theorem rcmp_9 {f : T → Bool} {t : T} (ih : ∀ k ∈ (t.kid 0).ks, RCmpAt f k) (e : t.kd = 9) (hl : t.ks.length = 1) (h16 : (t.kid 0).kd = 16) (h1 : ¬(t.kid 0).n = 1) : RCmpAt (cmpB f) t := by
  intro cs w S g h hS hg hw
  obtain ⟨A1, c1, A2, c2, A3, c3, rfl, -, -, hk⟩ := h.forms
  have hlen : t.ks.length ≤ 9223372036854775807 := by obtain ⟨_, _, _, h⟩ := hk.form; exact h
  have H := Lib.hid h
  have HK := Lib.hid hk
  have HS := Lib.hid hS
  have HW := Lib.hid hw
  clear h hS hk hw
  have h0 : 0 < t.ks.length := by omega
  have hk0 : t.kid 0 = t.ks[0] := T.kid_at h0
  have HF : Hid (cmpB f t = t.ks[0].ks.all f) := by unfold Hid cmpB; rw [if_neg (by omega), if_neg (by omega), if_pos ⟨e, h16⟩, decide_eq_false h1, Bool.false_or, hk0]
  have hne : ¬t.ks = [] := by intro e'; rw [e'] at h0; exact absurd h0 (by simp)
  have hbl : ((t.ks.length : Int) != 1) = false := by simp; omega
  have hb16 : (t.ks[0].kd != 16) = false := by rw [← hk0]; simpa using h16
  have hb1 : (t.ks[0].n == 1) = false := by rw [← hk0]; simpa using h1
  rw [hk0] at ih
  have IH := Lib.hid ih
  have b1 : (t.kd == 1) = false := by rw [e]; rfl
  have b2 : (t.kd == 2) = false := by rw [e]; rfl
  have b3 : (t.kd == 3) = false := by rw [e]; rfl
  have b4 : (t.kd == 4) = false := by rw [e]; rfl
  have b5 : (t.kd == 5) = false := by rw [e]; rfl
  have b6 : (t.kd == 6) = false := by rw [e]; rfl
  have b10 : (t.kd == 10) = false := by rw [e]; rfl
  have b12 : (t.kd == 12) = false := by rw [e]; rfl
  have b15 : (t.kd == 15) = false := by rw [e]; rfl
  have b14 : (t.kd == 14) = false := by rw [e]; rfl
  have b9 : (t.kd == 9) = true := by rw [e]; rfl
  clear e h16 hk0 h1 ih hl
  go_enter Try.func26, Try.ntmps26
  go_wp2_with fail
  refine (runder_none (g := g) (by simp; omega) (HW.out.below ((Below.refl _ _).alloc (Nat.le_refl _) _) hg)).mono ?_
  rintro e w1 ⟨rfl, hb1⟩
  have hz1 := hb1.size
  simp at hz1
  have HX : Hid (Below w.heap.size w w1) := ((Below.refl _ _).alloc (Nat.le_refl _) _).trans (hb1.mono (by simp))
  clear hb1
  obtain ⟨b, o, c, B1, d1, B2, d2, B3, d3, hv, hSb, ⟨g0, g1, g2, g3, g4, g5, g6⟩, hkr⟩ := (HK.out.keep (SameOn.of_below HX.out HS.out) (fun _ h => h)).at_ h0
  cases hv
  simp only [Nat.zero_mul, Nat.add_zero] at g0 g1 g2 g3 g4 g5 g6
  have hbb := (HS.out.below HX.out) b hSb
  have HKR := Lib.hid hkr
  clear hkr
  obtain ⟨F1, f1, F2, f2, F3, f3, hcs, -, -, hkk⟩ := HKR.out.forms
  have HKK : Hid (RowT w1 S (.slice B3 t.ks[0].ks.length d3) t.ks[0].ks) := by
    simp only [List.cons.injEq, Value.slice.injEq, and_true, true_and] at hcs
    obtain ⟨⟨rfl, rfl⟩, ⟨rfl, rfl⟩, rfl, rfl⟩ := hcs
    exact hkk
  have hlen2 : t.ks[0].ks.length ≤ 9223372036854775807 := by obtain ⟨_, _, _, h⟩ := HKK.out.form; exact h
  clear hcs hkk
  go_wp2_with fail
  go_loopg [8] t.ks[0].ks.length (fun d i wr => ∃ (j : Nat), d = t.ks[0].ks.length - j ∧ j ≤ t.ks[0].ks.length ∧ i = .int .i64 j ∧ Hid (∀ k (h : k < t.ks[0].ks.length), k < j → f t.ks[0].ks[k] = true) ∧ Hid (Below (w1.heap.size + 2) ((w1.alloc (.cells #[.int .i64 t.kd, .string t.nm, .int .i64 t.n, .bool t.fl, .slice A1 t.ns.length c1, .slice A2 t.ms.length c2, .slice (some ⟨b, o, none⟩) t.ks.length c3] 26)).alloc (.cells #[.int .i64 t.ks[0].kd, .string t.ks[0].nm, .int .i64 t.ks[0].n, .bool t.ks[0].fl, .slice B1 t.ks[0].ns.length d1, .slice B2 t.ks[0].ms.length d2, .slice B3 t.ks[0].ks.length d3] 26)) wr))
  case atStart => exact ⟨0, by simp, by omega, rfl, (fun k h h' => absurd h' (by omega)), Below.refl _ _⟩
  case round =>
    obtain ⟨j, rfl, hj, rfl, HSH, HBL⟩ := hrel
    have hzr := HBL.out.size
    simp at hzr
    have HWR : Hid (Below w.heap.size w wr) := ((HX.out.alloc (by omega) _).alloc (by simp; omega) _).trans (HBL.out.mono (by omega))
    have HWS : Hid (SameOn S w1 wr) := SameOn.of_below ((((Below.refl w1.heap.size w1).alloc (Nat.le_refl _) _).alloc (by simp) _).trans (HBL.out.mono (by omega))) (HS.out.below HX.out)
    have HSR : Hid (Old S wr) := HS.out.below HWR.out
    have hu : w1.heap.size + 1 < wr.heap.size := by omega
    have HNB : Hid (Blk ((w1.alloc (.cells #[.int .i64 t.kd, .string t.nm, .int .i64 t.n, .bool t.fl, .slice A1 t.ns.length c1, .slice A2 t.ms.length c2, .slice (some ⟨b, o, none⟩) t.ks.length c3] 26)).alloc (.cells #[.int .i64 t.ks[0].kd, .string t.ks[0].nm, .int .i64 t.ks[0].n, .bool t.ks[0].fl, .slice B1 t.ks[0].ns.length d1, .slice B2 t.ks[0].ms.length d2, .slice B3 t.ks[0].ks.length d3] 26)) (w1.heap.size + 1) 26 #[.int .i64 t.ks[0].kd, .string t.ks[0].nm, .int .i64 t.ks[0].n, .bool t.ks[0].fl, .slice B1 t.ks[0].ns.length d1, .slice B2 t.ks[0].ms.length d2, .slice B3 t.ks[0].ks.length d3]) := by
      unfold Hid
      simpa using Blk.new (w1.alloc (.cells #[.int .i64 t.kd, .string t.nm, .int .i64 t.n, .bool t.fl, .slice A1 t.ns.length c1, .slice A2 t.ms.length c2, .slice (some ⟨b, o, none⟩) t.ks.length c3] 26)) 26 #[.int .i64 t.ks[0].kd, .string t.ks[0].nm, .int .i64 t.ks[0].n, .bool t.ks[0].fl, .slice B1 t.ks[0].ns.length d1, .slice B2 t.ks[0].ms.length d2, .slice B3 t.ks[0].ks.length d3]
    obtain ⟨q0, q1, q2, q3, q4, q5, q6, qf⟩ := (HNB.out.below HBL.out (by omega)).cells7
    by_cases hlt : j < t.ks[0].ks.length
    · have hr := HKK.out.keep HWS.out (fun _ h => h)
      obtain ⟨b', o', c', X1, x1, X2, x2, X3, x3, hv, hSb', ⟨m0, m1, m2, m3, m4, m5, m6⟩, hkr⟩ := hr.at_ hlt
      have HV := Lib.hid hv
      rw [hv] at q6
      have HKR2 := Lib.hid hkr
      clear hkr hr hv
      go_wp2_with fail
      refine (IH.out _ (List.getElem_mem hlt) [.int .i64 t.ks[0].ks[j].kd, .string t.ks[0].ks[j].nm, .int .i64 t.ks[0].ks[j].n, .bool t.ks[0].ks[j].fl, .slice X1 t.ks[0].ks[j].ns.length x1, .slice X2 t.ks[0].ks[j].ms.length x2, .slice X3 t.ks[0].ks[j].ks.length x3] _ S g HKR2.out HSR.out (by omega) (HW.out.below HWR.out hg)).mono ?_
      rintro e w2 ⟨rfl, hb2⟩
      have hz2 := hb2.size
      have HB2 := Lib.hid (HBL.out.trans (hb2.mono (by omega)))
      have HBW : Hid (Below w.heap.size w w2) := HWR.out.trans (hb2.mono (by omega))
      clear hb2
      cases hf : f t.ks[0].ks[j] with
      | false =>
        have HA : Hid (t.ks[0].ks.all f = false) := all_at hlt hf
        clear hf
        go_wp2_with fail
        go_ret
        exact ⟨by rw [HF.out, HA.out]; rfl, HBW.out⟩
      | true =>
        have HSN : Hid (∀ k (h : k < t.ks[0].ks.length), k < j + 1 → f t.ks[0].ks[k] = true) := fun k h h' => by
          by_cases e : k < j
          · exact HSH.out k h e
          · obtain rfl : k = j := by omega
            exact hf
        clear HSH hf
        go_wp2_with fail
        go_roundg (t.ks[0].ks.length - (j + 1))
        case measure => omega
        case rel => exact ⟨j + 1, rfl, by omega, by go_num, HSN, HB2⟩
    · obtain rfl : j = t.ks[0].ks.length := by omega
      have HA : Hid (t.ks[0].ks.all f = true) := all_pre HSH.out rfl
      clear HSH
      go_wp2_with fail
      go_ret
      exact ⟨by rw [HF.out, HA.out]; rfl, HWR.out⟩

set_option maxHeartbeats 1000000 in
set_option maxRecDepth 100000 in
theorem rcmp_else {f : T → Bool} {t : T} (e1 : ¬t.kd = 1) (e2 : ¬t.kd = 2) (e3 : ¬t.kd = 3) (e4 : ¬t.kd = 4) (e5 : ¬t.kd = 5) (e6 : ¬t.kd = 6) (e10 : ¬t.kd = 10) (e12 : ¬t.kd = 12) (e15 : ¬t.kd = 15) (e14 : ¬t.kd = 14) (e9 : ¬t.kd = 9) : RCmpAt (cmpB f) t := by
  intro cs w S g h hS hg hw
  obtain ⟨A1, c1, A2, c2, A3, c3, rfl, -, -, hk⟩ := h.forms
  have hlen : t.ks.length ≤ 9223372036854775807 := by obtain ⟨_, _, _, h⟩ := hk.form; exact h
  have H := Lib.hid h
  have HK := Lib.hid hk
  have HS := Lib.hid hS
  have HW := Lib.hid hw
  clear h hS hk hw
  have HF : Hid (cmpB f t = false) := by unfold Hid cmpB; rw [if_neg (by omega), if_neg e14, if_neg (fun h => e9 h.1)]
  have b1 : (t.kd == 1) = false := by simpa using e1
  have b2 : (t.kd == 2) = false := by simpa using e2
  have b3 : (t.kd == 3) = false := by simpa using e3
  have b4 : (t.kd == 4) = false := by simpa using e4
  have b5 : (t.kd == 5) = false := by simpa using e5
  have b6 : (t.kd == 6) = false := by simpa using e6
  have b10 : (t.kd == 10) = false := by simpa using e10
  have b12 : (t.kd == 12) = false := by simpa using e12
  have b15 : (t.kd == 15) = false := by simpa using e15
  have b14 : (t.kd == 14) = false := by simpa using e14
  have b9 : (t.kd == 9) = false := by simpa using e9
  clear e1 e2 e3 e4 e5 e6 e10 e12 e15 e14 e9
  go_enter Try.func26, Try.ntmps26
  go_wp2_with fail
  refine (runder_none (g := g) (by simp; omega) (HW.out.below ((Below.refl _ _).alloc (Nat.le_refl _) _) hg)).mono ?_
  rintro e w1 ⟨rfl, hb1⟩
  have hz1 := hb1.size
  simp at hz1
  have HX : Hid (Below w.heap.size w w1) := ((Below.refl _ _).alloc (Nat.le_refl _) _).trans (hb1.mono (by simp))
  clear hb1
  go_wp2_with fail
  go_ret
  exact ⟨by rw [HF.out]; rfl, HX.out.alloc (by omega) _⟩

theorem rcmp_step {f : T → Bool} {t : T} (hs : ShT t) (ih : ∀ k ∈ t.ks, RCmpAt f k) (ih0 : ∀ k ∈ (t.kid 0).ks, RCmpAt f k) : RCmpAt (cmpB f) t := by
  by_cases e1 : t.kd = 1
  · exact rcmp_1 e1
  by_cases e2 : t.kd = 2
  · exact rcmp_2 e2
  by_cases e3 : t.kd = 3
  · exact rcmp_3 e3
  by_cases e4 : t.kd = 4
  · exact rcmp_4 e4
  by_cases e5 : t.kd = 5
  · exact rcmp_5 e5
  by_cases e6 : t.kd = 6
  · exact rcmp_6 e6
  by_cases e10 : t.kd = 10
  · exact rcmp_10 e10
  by_cases e12 : t.kd = 12
  · exact rcmp_12 e12
  by_cases e15 : t.kd = 15
  · exact rcmp_15 e15
  by_cases e14 : t.kd = 14
  · exact rcmp_14 ih e14
  by_cases e9 : t.kd = 9
  · have hl := (ShT.iff.1 hs).1 e9
    by_cases h16 : (t.kid 0).kd = 16
    · by_cases h1 : (t.kid 0).n = 1
      · exact rcmp_9_t e9 hl h16 h1
      · exact rcmp_9 ih0 e9 hl h16 h1
    · exact rcmp_9_f e9 hl h16
  exact rcmp_else e1 e2 e3 e4 e5 e6 e10 e12 e15 e14 e9
theorem rkid_mem_sz {t k : T} (h : k ∈ (t.kid 0).ks) : k.sz + 1 < t.sz := by
  have e : ∀ t : T, t.sz = T.szL t.ks + 1 := fun t => by obtain ⟨k, nm, n, f, ns, ms, ks⟩ := t; rw [sz_mk]; rfl
  by_cases hi : 0 < t.ks.length
  · rw [T.kid_at hi] at h
    obtain ⟨j, hj, rfl⟩ := List.getElem_of_mem h
    have h1 := szL_mem hi
    have h2 := szL_mem hj
    rw [e t]
    have := e t.ks[0]
    omega
  · rw [T.kid_out (by omega)] at h; cases h
theorem rcmp_any : ∀ (n : Nat) (t : T), ShT t → t.sz ≤ n → RCmpAt (cmp n) t
  | 0, t, _, h => by obtain ⟨k, nm, n, f, ns, ms, ks⟩ := t; rw [sz_mk] at h; omega
  | n + 1, t, hs, h => rcmp_step (f := cmp n) hs (fun k hk => rcmp_any n k ((ShT.iff.1 hs).2.2 k hk) (by
      obtain ⟨i, hi, rfl⟩ := List.getElem_of_mem hk
      have := szL_mem hi
      have e : t.sz = T.szL t.ks + 1 := by obtain ⟨k, nm, n, f, ns, ms, ks⟩ := t; rw [sz_mk]; rfl
      omega)) (fun k hk => rcmp_any n k ((ShT.iff.1 (hs.kid 0)).2.2 k hk) (by have := rkid_mem_sz hk; omega))
end Go.Proofs.Ytanhdklaponekaa
