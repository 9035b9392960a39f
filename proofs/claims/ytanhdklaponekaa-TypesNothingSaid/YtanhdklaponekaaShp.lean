/- recastlaw8.shaped: where it says true, a type is shaped. -/
import Derived.Test.YtanhdklaponekaaTLaw
import Derived.Test.YtanhdklaponekaaEqualFunc
namespace Go.Proofs.Ytanhdklaponekaa
open Go Go.RowKit

def ShRes (t : T) (w : World) (e : Ending) (w' : World) : Prop := ∃ r, e = .returned (.bool r) ∧ (r = true → ShT t) ∧ Below w.heap.size w w'
def ShAt (t : T) : Prop := ∀ (cs : List Value) (w : World) (S : Nat → Prop), TyR w S t cs → Old S w → Calls Try.prog 45 #[.agg cs.toArray] w (ShRes t w)

theorem ks_max {w : World} {S : Nat → Prop} {v : Value} {ts : List T} (h : RowT w S v ts) : ts.length ≤ 9223372036854775807 := by obtain ⟨_, _, _, h⟩ := h.form; exact h

set_option maxHeartbeats 2000000 in
set_option maxRecDepth 100000 in
theorem sh_ptr_f {t : T} (e : t.kd = 10 ∨ t.kd = 11 ∨ t.kd = 12) (hl : ¬t.ks.length = 1) : ShAt t := by
  intro cs w S h hS
  obtain ⟨A1, c1, A2, c2, A3, c3, rfl, -, -, hk⟩ := h.forms
  have hlen := ks_max hk
  have HS := Lib.hid hS
  have HK := Lib.hid hk
  have hb : ((t.ks.length : Int) != 1) = true := by simp; omega
  clear hl
  clear h hS hk
  rcases e with e | e | e
  all_goals
    rw [e]
    clear e
    go_enter Try.func45, Try.ntmps45
    go_wp2_with fail
    go_ret
    exact ⟨false, rfl, (fun h => by cases h), (Below.refl _ _).alloc (Nat.le_refl _) _⟩

set_option maxHeartbeats 2000000 in
set_option maxRecDepth 100000 in
theorem sh_10 {t : T} (ih : ∀ k ∈ t.ks, ShAt k) (e : t.kd = 10) (hl : t.ks.length = 1) : ShAt t := by
  intro cs w S h hS
  obtain ⟨A1, c1, A2, c2, A3, c3, rfl, -, -, hk⟩ := h.forms
  have hlen := ks_max hk
  have HS := Lib.hid hS
  have HK := Lib.hid hk
  have IH := Lib.hid ih
  have hb : ((t.ks.length : Int) != 1) = false := by simp; omega
  have HP : Hid ((t.kd = 9 → t.ks.length = 1) ∧ (t.kd = 15 → ∀ x ∈ t.ks, x.kd = 13)) := ⟨fun _ => hl, fun h => by omega⟩
  clear hl ih
  clear h hS hk
  have HE := Lib.hid e
  rw [e]
  clear e
  go_enter Try.func45, Try.ntmps45
  go_wp2_with fail
  go_loopg [5] t.ks.length (fun d i wr => ∃ (j : Nat), d = t.ks.length - j ∧ j ≤ t.ks.length ∧ i = .int .i64 j ∧ Hid (∀ k (h : k < t.ks.length), k < j → ShT t.ks[k]) ∧ Hid (Below (w.heap.size + 1) (w.alloc (.cells #[.int .i64 10, .string t.nm, .int .i64 t.n, .bool t.fl, .slice A1 t.ns.length c1, .slice A2 t.ms.length c2, .slice A3 t.ks.length c3] 26)) wr))
  case atStart => exact ⟨0, by simp, by omega, rfl, (fun k h h' => absurd h' (by omega)), Below.refl _ _⟩
  case round =>
    obtain ⟨j, rfl, hj, rfl, HSH, HBL⟩ := hrel
    have HSX : Hid (SameOn S w wr) := ((SameOn.refl S w).alloc HS.out _).trans (SameOn.of_below HBL.out (fun b hb => by have := HS.out b hb; omega))
    have hzr := HBL.out.size
    simp at hzr
    have hzb : w.heap.size < wr.heap.size := by omega
    have HSR : Hid (Old S wr) := fun b hb => by have := HS.out b hb; omega
    by_cases hlt : j < t.ks.length
    · have hr := HK.out.keep HSX.out (fun _ h => h)
      obtain ⟨b, o, c, B1, d1, B2, d2, B3, d3, hv, hSb, ⟨g0, g1, g2, g3, g4, g5, g6⟩, hkr⟩ := hr.at_ hlt
      cases hv
      have HKR := Lib.hid hkr
      clear hkr hr
      obtain ⟨q0, q1, q2, q3, q4, q5, q6, qf⟩ := ((Blk.new w 26 #[.int .i64 10, .string t.nm, .int .i64 t.n, .bool t.fl, .slice A1 t.ns.length c1, .slice A2 t.ms.length c2, .slice (some ⟨b, o, none⟩) t.ks.length c3]).below HBL.out (by omega)).cells7
      go_wp2_with fail
      refine (IH.out _ (List.getElem_mem hlt) [.int .i64 t.ks[j].kd, .string t.ks[j].nm, .int .i64 t.ks[j].n, .bool t.ks[j].fl, .slice B1 t.ks[j].ns.length d1, .slice B2 t.ks[j].ms.length d2, .slice B3 t.ks[j].ks.length d3] _ S HKR.out HSR.out).mono ?_
      rintro e w1 ⟨r, rfl, hr1, hb1⟩
      have hz1 := hb1.size
      have HB1 : Hid (Below (w.heap.size + 1) (w.alloc (.cells #[.int .i64 10, .string t.nm, .int .i64 t.n, .bool t.fl, .slice A1 t.ns.length c1, .slice A2 t.ms.length c2, .slice (some ⟨b, o, none⟩) t.ks.length c3] 26)) w1) := HBL.out.trans (hb1.mono (by omega))
      have HBW : Hid (Below w.heap.size w w1) := ((Below.refl _ _).alloc (Nat.le_refl _) _).trans (HB1.out.mono (by omega))
      have HR1 := Lib.hid hr1
      clear hb1 hr1
      cases r with
      | false =>
        go_wp2_with fail
        go_ret
        exact ⟨false, rfl, (fun h => by cases h), HBW.out⟩
      | true =>
        have HSN : Hid (∀ k (h : k < t.ks.length), k < j + 1 → ShT t.ks[k]) := fun k h h' => by
          by_cases e : k < j
          · exact HSH.out k h e
          · obtain rfl : k = j := by omega
            exact HR1.out rfl
        clear HSH HR1
        go_wp2_with fail
        go_roundg (t.ks.length - (j + 1))
        case measure => omega
        case rel => exact ⟨j + 1, rfl, by omega, by go_num, HSN, HB1⟩
    · obtain rfl : j = t.ks.length := by omega
      have HBW : Hid (Below w.heap.size w wr) := ((Below.refl _ _).alloc (Nat.le_refl _) _).trans (HBL.out.mono (by omega))
      have HFIN : Hid (ShT t) := by
        refine ShT.iff.2 ⟨HP.out.1, HP.out.2, fun x hx => ?_⟩
        obtain ⟨k, hk, rfl⟩ := List.getElem_of_mem hx
        exact HSH.out k hk hk
      obtain ⟨q0, q1, q2, q3, q4, q5, q6, qf⟩ := ((Blk.new w 26 #[.int .i64 10, .string t.nm, .int .i64 t.n, .bool t.fl, .slice A1 t.ns.length c1, .slice A2 t.ms.length c2, .slice A3 t.ks.length c3]).below HBL.out (by omega)).cells7
      clear HSH
      go_wp2_with fail
      go_ret
      exact ⟨true, rfl, (fun _ => HFIN.out), HBW.out⟩

set_option maxHeartbeats 2000000 in
set_option maxRecDepth 100000 in
theorem sh_11 {t : T} (ih : ∀ k ∈ t.ks, ShAt k) (e : t.kd = 11) (hl : t.ks.length = 1) : ShAt t := by
  intro cs w S h hS
  obtain ⟨A1, c1, A2, c2, A3, c3, rfl, -, -, hk⟩ := h.forms
  have hlen := ks_max hk
  have HS := Lib.hid hS
  have HK := Lib.hid hk
  have IH := Lib.hid ih
  have hb : ((t.ks.length : Int) != 1) = false := by simp; omega
  have HP : Hid ((t.kd = 9 → t.ks.length = 1) ∧ (t.kd = 15 → ∀ x ∈ t.ks, x.kd = 13)) := ⟨fun _ => hl, fun h => by omega⟩
  clear hl ih
  clear h hS hk
  have HE := Lib.hid e
  rw [e]
  clear e
  go_enter Try.func45, Try.ntmps45
  go_wp2_with fail
  go_loopg [5] t.ks.length (fun d i wr => ∃ (j : Nat), d = t.ks.length - j ∧ j ≤ t.ks.length ∧ i = .int .i64 j ∧ Hid (∀ k (h : k < t.ks.length), k < j → ShT t.ks[k]) ∧ Hid (Below (w.heap.size + 1) (w.alloc (.cells #[.int .i64 11, .string t.nm, .int .i64 t.n, .bool t.fl, .slice A1 t.ns.length c1, .slice A2 t.ms.length c2, .slice A3 t.ks.length c3] 26)) wr))
  case atStart => exact ⟨0, by simp, by omega, rfl, (fun k h h' => absurd h' (by omega)), Below.refl _ _⟩
  case round =>
    obtain ⟨j, rfl, hj, rfl, HSH, HBL⟩ := hrel
    have HSX : Hid (SameOn S w wr) := ((SameOn.refl S w).alloc HS.out _).trans (SameOn.of_below HBL.out (fun b hb => by have := HS.out b hb; omega))
    have hzr := HBL.out.size
    simp at hzr
    have hzb : w.heap.size < wr.heap.size := by omega
    have HSR : Hid (Old S wr) := fun b hb => by have := HS.out b hb; omega
    by_cases hlt : j < t.ks.length
    · have hr := HK.out.keep HSX.out (fun _ h => h)
      obtain ⟨b, o, c, B1, d1, B2, d2, B3, d3, hv, hSb, ⟨g0, g1, g2, g3, g4, g5, g6⟩, hkr⟩ := hr.at_ hlt
      cases hv
      have HKR := Lib.hid hkr
      clear hkr hr
      obtain ⟨q0, q1, q2, q3, q4, q5, q6, qf⟩ := ((Blk.new w 26 #[.int .i64 11, .string t.nm, .int .i64 t.n, .bool t.fl, .slice A1 t.ns.length c1, .slice A2 t.ms.length c2, .slice (some ⟨b, o, none⟩) t.ks.length c3]).below HBL.out (by omega)).cells7
      go_wp2_with fail
      refine (IH.out _ (List.getElem_mem hlt) [.int .i64 t.ks[j].kd, .string t.ks[j].nm, .int .i64 t.ks[j].n, .bool t.ks[j].fl, .slice B1 t.ks[j].ns.length d1, .slice B2 t.ks[j].ms.length d2, .slice B3 t.ks[j].ks.length d3] _ S HKR.out HSR.out).mono ?_
      rintro e w1 ⟨r, rfl, hr1, hb1⟩
      have hz1 := hb1.size
      have HB1 : Hid (Below (w.heap.size + 1) (w.alloc (.cells #[.int .i64 11, .string t.nm, .int .i64 t.n, .bool t.fl, .slice A1 t.ns.length c1, .slice A2 t.ms.length c2, .slice (some ⟨b, o, none⟩) t.ks.length c3] 26)) w1) := HBL.out.trans (hb1.mono (by omega))
      have HBW : Hid (Below w.heap.size w w1) := ((Below.refl _ _).alloc (Nat.le_refl _) _).trans (HB1.out.mono (by omega))
      have HR1 := Lib.hid hr1
      clear hb1 hr1
      cases r with
      | false =>
        go_wp2_with fail
        go_ret
        exact ⟨false, rfl, (fun h => by cases h), HBW.out⟩
      | true =>
        have HSN : Hid (∀ k (h : k < t.ks.length), k < j + 1 → ShT t.ks[k]) := fun k h h' => by
          by_cases e : k < j
          · exact HSH.out k h e
          · obtain rfl : k = j := by omega
            exact HR1.out rfl
        clear HSH HR1
        go_wp2_with fail
        go_roundg (t.ks.length - (j + 1))
        case measure => omega
        case rel => exact ⟨j + 1, rfl, by omega, by go_num, HSN, HB1⟩
    · obtain rfl : j = t.ks.length := by omega
      have HBW : Hid (Below w.heap.size w wr) := ((Below.refl _ _).alloc (Nat.le_refl _) _).trans (HBL.out.mono (by omega))
      have HFIN : Hid (ShT t) := by
        refine ShT.iff.2 ⟨HP.out.1, HP.out.2, fun x hx => ?_⟩
        obtain ⟨k, hk, rfl⟩ := List.getElem_of_mem hx
        exact HSH.out k hk hk
      obtain ⟨q0, q1, q2, q3, q4, q5, q6, qf⟩ := ((Blk.new w 26 #[.int .i64 11, .string t.nm, .int .i64 t.n, .bool t.fl, .slice A1 t.ns.length c1, .slice A2 t.ms.length c2, .slice A3 t.ks.length c3]).below HBL.out (by omega)).cells7
      clear HSH
      go_wp2_with fail
      go_ret
      exact ⟨true, rfl, (fun _ => HFIN.out), HBW.out⟩

set_option maxHeartbeats 2000000 in
set_option maxRecDepth 100000 in
theorem sh_12 {t : T} (ih : ∀ k ∈ t.ks, ShAt k) (e : t.kd = 12) (hl : t.ks.length = 1) : ShAt t := by
  intro cs w S h hS
  obtain ⟨A1, c1, A2, c2, A3, c3, rfl, -, -, hk⟩ := h.forms
  have hlen := ks_max hk
  have HS := Lib.hid hS
  have HK := Lib.hid hk
  have IH := Lib.hid ih
  have hb : ((t.ks.length : Int) != 1) = false := by simp; omega
  have HP : Hid ((t.kd = 9 → t.ks.length = 1) ∧ (t.kd = 15 → ∀ x ∈ t.ks, x.kd = 13)) := ⟨fun _ => hl, fun h => by omega⟩
  clear hl ih
  clear h hS hk
  have HE := Lib.hid e
  rw [e]
  clear e
  go_enter Try.func45, Try.ntmps45
  go_wp2_with fail
  go_loopg [5] t.ks.length (fun d i wr => ∃ (j : Nat), d = t.ks.length - j ∧ j ≤ t.ks.length ∧ i = .int .i64 j ∧ Hid (∀ k (h : k < t.ks.length), k < j → ShT t.ks[k]) ∧ Hid (Below (w.heap.size + 1) (w.alloc (.cells #[.int .i64 12, .string t.nm, .int .i64 t.n, .bool t.fl, .slice A1 t.ns.length c1, .slice A2 t.ms.length c2, .slice A3 t.ks.length c3] 26)) wr))
  case atStart => exact ⟨0, by simp, by omega, rfl, (fun k h h' => absurd h' (by omega)), Below.refl _ _⟩
  case round =>
    obtain ⟨j, rfl, hj, rfl, HSH, HBL⟩ := hrel
    have HSX : Hid (SameOn S w wr) := ((SameOn.refl S w).alloc HS.out _).trans (SameOn.of_below HBL.out (fun b hb => by have := HS.out b hb; omega))
    have hzr := HBL.out.size
    simp at hzr
    have hzb : w.heap.size < wr.heap.size := by omega
    have HSR : Hid (Old S wr) := fun b hb => by have := HS.out b hb; omega
    by_cases hlt : j < t.ks.length
    · have hr := HK.out.keep HSX.out (fun _ h => h)
      obtain ⟨b, o, c, B1, d1, B2, d2, B3, d3, hv, hSb, ⟨g0, g1, g2, g3, g4, g5, g6⟩, hkr⟩ := hr.at_ hlt
      cases hv
      have HKR := Lib.hid hkr
      clear hkr hr
      obtain ⟨q0, q1, q2, q3, q4, q5, q6, qf⟩ := ((Blk.new w 26 #[.int .i64 12, .string t.nm, .int .i64 t.n, .bool t.fl, .slice A1 t.ns.length c1, .slice A2 t.ms.length c2, .slice (some ⟨b, o, none⟩) t.ks.length c3]).below HBL.out (by omega)).cells7
      go_wp2_with fail
      refine (IH.out _ (List.getElem_mem hlt) [.int .i64 t.ks[j].kd, .string t.ks[j].nm, .int .i64 t.ks[j].n, .bool t.ks[j].fl, .slice B1 t.ks[j].ns.length d1, .slice B2 t.ks[j].ms.length d2, .slice B3 t.ks[j].ks.length d3] _ S HKR.out HSR.out).mono ?_
      rintro e w1 ⟨r, rfl, hr1, hb1⟩
      have hz1 := hb1.size
      have HB1 : Hid (Below (w.heap.size + 1) (w.alloc (.cells #[.int .i64 12, .string t.nm, .int .i64 t.n, .bool t.fl, .slice A1 t.ns.length c1, .slice A2 t.ms.length c2, .slice (some ⟨b, o, none⟩) t.ks.length c3] 26)) w1) := HBL.out.trans (hb1.mono (by omega))
      have HBW : Hid (Below w.heap.size w w1) := ((Below.refl _ _).alloc (Nat.le_refl _) _).trans (HB1.out.mono (by omega))
      have HR1 := Lib.hid hr1
      clear hb1 hr1
      cases r with
      | false =>
        go_wp2_with fail
        go_ret
        exact ⟨false, rfl, (fun h => by cases h), HBW.out⟩
      | true =>
        have HSN : Hid (∀ k (h : k < t.ks.length), k < j + 1 → ShT t.ks[k]) := fun k h h' => by
          by_cases e : k < j
          · exact HSH.out k h e
          · obtain rfl : k = j := by omega
            exact HR1.out rfl
        clear HSH HR1
        go_wp2_with fail
        go_roundg (t.ks.length - (j + 1))
        case measure => omega
        case rel => exact ⟨j + 1, rfl, by omega, by go_num, HSN, HB1⟩
    · obtain rfl : j = t.ks.length := by omega
      have HBW : Hid (Below w.heap.size w wr) := ((Below.refl _ _).alloc (Nat.le_refl _) _).trans (HBL.out.mono (by omega))
      have HFIN : Hid (ShT t) := by
        refine ShT.iff.2 ⟨HP.out.1, HP.out.2, fun x hx => ?_⟩
        obtain ⟨k, hk, rfl⟩ := List.getElem_of_mem hx
        exact HSH.out k hk hk
      obtain ⟨q0, q1, q2, q3, q4, q5, q6, qf⟩ := ((Blk.new w 26 #[.int .i64 12, .string t.nm, .int .i64 t.n, .bool t.fl, .slice A1 t.ns.length c1, .slice A2 t.ms.length c2, .slice A3 t.ks.length c3]).below HBL.out (by omega)).cells7
      clear HSH
      go_wp2_with fail
      go_ret
      exact ⟨true, rfl, (fun _ => HFIN.out), HBW.out⟩

set_option maxHeartbeats 2000000 in
set_option maxRecDepth 100000 in
theorem sh_9_f {t : T} (e : t.kd = 9) (hl : ¬t.ks.length = 1) : ShAt t := by
  intro cs w S h hS
  obtain ⟨A1, c1, A2, c2, A3, c3, rfl, -, -, hk⟩ := h.forms
  have hlen := ks_max hk
  have HS := Lib.hid hS
  have HK := Lib.hid hk
  have hb : ((t.ks.length : Int) != 1) = true := by simp; omega
  rw [e]
  clear hl e
  clear h hS hk
  go_enter Try.func45, Try.ntmps45
  go_wp2_with fail
  go_ret
  exact ⟨false, rfl, (fun h => by cases h), (Below.refl _ _).alloc (Nat.le_refl _) _⟩

set_option maxHeartbeats 2000000 in
set_option maxRecDepth 100000 in
theorem sh_9 {t : T} (ih : ∀ k ∈ t.ks, ShAt k) (e : t.kd = 9) (hl : t.ks.length = 1) : ShAt t := by
  intro cs w S h hS
  obtain ⟨A1, c1, A2, c2, A3, c3, rfl, -, -, hk⟩ := h.forms
  have hlen := ks_max hk
  have HS := Lib.hid hS
  have HK := Lib.hid hk
  have IH := Lib.hid ih
  have hb : ((t.ks.length : Int) != 1) = false := by simp; omega
  have HP : Hid ((t.kd = 9 → t.ks.length = 1) ∧ (t.kd = 15 → ∀ x ∈ t.ks, x.kd = 13)) := ⟨fun _ => hl, fun h => by omega⟩
  rw [e]
  clear hl ih e
  clear h hS hk
  go_enter Try.func45, Try.ntmps45
  go_wp2_with fail
  go_loopg [5] t.ks.length (fun d i wr => ∃ (j : Nat), d = t.ks.length - j ∧ j ≤ t.ks.length ∧ i = .int .i64 j ∧ Hid (∀ k (h : k < t.ks.length), k < j → ShT t.ks[k]) ∧ Hid (Below (w.heap.size + 1) (w.alloc (.cells #[.int .i64 9, .string t.nm, .int .i64 t.n, .bool t.fl, .slice A1 t.ns.length c1, .slice A2 t.ms.length c2, .slice A3 t.ks.length c3] 26)) wr))
  case atStart => exact ⟨0, by simp, by omega, rfl, (fun k h h' => absurd h' (by omega)), Below.refl _ _⟩
  case round =>
    obtain ⟨j, rfl, hj, rfl, HSH, HBL⟩ := hrel
    have HSX : Hid (SameOn S w wr) := ((SameOn.refl S w).alloc HS.out _).trans (SameOn.of_below HBL.out (fun b hb => by have := HS.out b hb; omega))
    have hzr := HBL.out.size
    simp at hzr
    have hzb : w.heap.size < wr.heap.size := by omega
    have HSR : Hid (Old S wr) := fun b hb => by have := HS.out b hb; omega
    by_cases hlt : j < t.ks.length
    · have hr := HK.out.keep HSX.out (fun _ h => h)
      obtain ⟨b, o, c, B1, d1, B2, d2, B3, d3, hv, hSb, ⟨g0, g1, g2, g3, g4, g5, g6⟩, hkr⟩ := hr.at_ hlt
      cases hv
      have HKR := Lib.hid hkr
      clear hkr hr
      obtain ⟨q0, q1, q2, q3, q4, q5, q6, qf⟩ := ((Blk.new w 26 #[.int .i64 9, .string t.nm, .int .i64 t.n, .bool t.fl, .slice A1 t.ns.length c1, .slice A2 t.ms.length c2, .slice (some ⟨b, o, none⟩) t.ks.length c3]).below HBL.out (by omega)).cells7
      go_wp2_with fail
      refine (IH.out _ (List.getElem_mem hlt) [.int .i64 t.ks[j].kd, .string t.ks[j].nm, .int .i64 t.ks[j].n, .bool t.ks[j].fl, .slice B1 t.ks[j].ns.length d1, .slice B2 t.ks[j].ms.length d2, .slice B3 t.ks[j].ks.length d3] _ S HKR.out HSR.out).mono ?_
      rintro e w1 ⟨r, rfl, hr1, hb1⟩
      have hz1 := hb1.size
      have HB1 : Hid (Below (w.heap.size + 1) (w.alloc (.cells #[.int .i64 9, .string t.nm, .int .i64 t.n, .bool t.fl, .slice A1 t.ns.length c1, .slice A2 t.ms.length c2, .slice (some ⟨b, o, none⟩) t.ks.length c3] 26)) w1) := HBL.out.trans (hb1.mono (by omega))
      have HBW : Hid (Below w.heap.size w w1) := ((Below.refl _ _).alloc (Nat.le_refl _) _).trans (HB1.out.mono (by omega))
      have HR1 := Lib.hid hr1
      clear hb1 hr1
      cases r with
      | false =>
        go_wp2_with fail
        go_ret
        exact ⟨false, rfl, (fun h => by cases h), HBW.out⟩
      | true =>
        have HSN : Hid (∀ k (h : k < t.ks.length), k < j + 1 → ShT t.ks[k]) := fun k h h' => by
          by_cases e : k < j
          · exact HSH.out k h e
          · obtain rfl : k = j := by omega
            exact HR1.out rfl
        clear HSH HR1
        go_wp2_with fail
        go_roundg (t.ks.length - (j + 1))
        case measure => omega
        case rel => exact ⟨j + 1, rfl, by omega, by go_num, HSN, HB1⟩
    · obtain rfl : j = t.ks.length := by omega
      have HBW : Hid (Below w.heap.size w wr) := ((Below.refl _ _).alloc (Nat.le_refl _) _).trans (HBL.out.mono (by omega))
      have HFIN : Hid (ShT t) := by
        refine ShT.iff.2 ⟨HP.out.1, HP.out.2, fun x hx => ?_⟩
        obtain ⟨k, hk, rfl⟩ := List.getElem_of_mem hx
        exact HSH.out k hk hk
      obtain ⟨q0, q1, q2, q3, q4, q5, q6, qf⟩ := ((Blk.new w 26 #[.int .i64 9, .string t.nm, .int .i64 t.n, .bool t.fl, .slice A1 t.ns.length c1, .slice A2 t.ms.length c2, .slice A3 t.ks.length c3]).below HBL.out (by omega)).cells7
      clear HSH
      go_wp2_with fail
      go_ret
      exact ⟨true, rfl, (fun _ => HFIN.out), HBW.out⟩

set_option maxHeartbeats 2000000 in
set_option maxRecDepth 100000 in
theorem sh_13_f1 {t : T} (e : t.kd = 13) (hn : t.n < 0) : ShAt t := by
  intro cs w S h hS
  obtain ⟨A1, c1, A2, c2, A3, c3, rfl, -, -, hk⟩ := h.forms
  have hlen := ks_max hk
  have HS := Lib.hid hS
  have HK := Lib.hid hk
  rw [e]
  clear e
  clear h hS hk
  go_enter Try.func45, Try.ntmps45
  go_wp2_with fail
  go_ret
  exact ⟨false, rfl, (fun h => by cases h), (Below.refl _ _).alloc (Nat.le_refl _) _⟩

set_option maxHeartbeats 2000000 in
set_option maxRecDepth 100000 in
theorem sh_13_f2 {t : T} (e : t.kd = 13) (hn : ¬t.n < 0) (hm : t.ks.length < t.n) : ShAt t := by
  intro cs w S h hS
  obtain ⟨A1, c1, A2, c2, A3, c3, rfl, -, -, hk⟩ := h.forms
  have hlen := ks_max hk
  have HS := Lib.hid hS
  have HK := Lib.hid hk
  rw [e]
  clear e
  clear h hS hk
  go_enter Try.func45, Try.ntmps45
  go_wp2_with fail
  go_ret
  exact ⟨false, rfl, (fun h => by cases h), (Below.refl _ _).alloc (Nat.le_refl _) _⟩

set_option maxHeartbeats 2000000 in
set_option maxRecDepth 100000 in
theorem sh_13_1 {t : T} (ih : ∀ k ∈ t.ks, ShAt k) (e : t.kd = 13) (hn : ¬t.n < 0) (hm : ¬t.ks.length < t.n) (hf : t.fl = false) : ShAt t := by
  intro cs w S h hS
  obtain ⟨A1, c1, A2, c2, A3, c3, rfl, -, -, hk⟩ := h.forms
  have hlen := ks_max hk
  have HS := Lib.hid hS
  have HK := Lib.hid hk
  have IH := Lib.hid ih
  have HP : Hid ((t.kd = 9 → t.ks.length = 1) ∧ (t.kd = 15 → ∀ x ∈ t.ks, x.kd = 13)) := ⟨fun h => by omega, fun h => by omega⟩
  rw [e, hf]
  clear ih e hf
  clear h hS hk
  go_enter Try.func45, Try.ntmps45
  go_wp2_with fail
  go_loopg [5] t.ks.length (fun d i wr => ∃ (j : Nat), d = t.ks.length - j ∧ j ≤ t.ks.length ∧ i = .int .i64 j ∧ Hid (∀ k (h : k < t.ks.length), k < j → ShT t.ks[k]) ∧ Hid (Below (w.heap.size + 1) (w.alloc (.cells #[.int .i64 13, .string t.nm, .int .i64 t.n, .bool false, .slice A1 t.ns.length c1, .slice A2 t.ms.length c2, .slice A3 t.ks.length c3] 26)) wr))
  case atStart => exact ⟨0, by simp, by omega, rfl, (fun k h h' => absurd h' (by omega)), Below.refl _ _⟩
  case round =>
    obtain ⟨j, rfl, hj, rfl, HSH, HBL⟩ := hrel
    have HSX : Hid (SameOn S w wr) := ((SameOn.refl S w).alloc HS.out _).trans (SameOn.of_below HBL.out (fun b hb => by have := HS.out b hb; omega))
    have hzr := HBL.out.size
    simp at hzr
    have hzb : w.heap.size < wr.heap.size := by omega
    have HSR : Hid (Old S wr) := fun b hb => by have := HS.out b hb; omega
    by_cases hlt : j < t.ks.length
    · have hr := HK.out.keep HSX.out (fun _ h => h)
      obtain ⟨b, o, c, B1, d1, B2, d2, B3, d3, hv, hSb, ⟨g0, g1, g2, g3, g4, g5, g6⟩, hkr⟩ := hr.at_ hlt
      cases hv
      have HKR := Lib.hid hkr
      clear hkr hr
      obtain ⟨q0, q1, q2, q3, q4, q5, q6, qf⟩ := ((Blk.new w 26 #[.int .i64 13, .string t.nm, .int .i64 t.n, .bool false, .slice A1 t.ns.length c1, .slice A2 t.ms.length c2, .slice (some ⟨b, o, none⟩) t.ks.length c3]).below HBL.out (by omega)).cells7
      go_wp2_with fail
      refine (IH.out _ (List.getElem_mem hlt) [.int .i64 t.ks[j].kd, .string t.ks[j].nm, .int .i64 t.ks[j].n, .bool t.ks[j].fl, .slice B1 t.ks[j].ns.length d1, .slice B2 t.ks[j].ms.length d2, .slice B3 t.ks[j].ks.length d3] _ S HKR.out HSR.out).mono ?_
      rintro e w1 ⟨r, rfl, hr1, hb1⟩
      have hz1 := hb1.size
      have HB1 : Hid (Below (w.heap.size + 1) (w.alloc (.cells #[.int .i64 13, .string t.nm, .int .i64 t.n, .bool false, .slice A1 t.ns.length c1, .slice A2 t.ms.length c2, .slice (some ⟨b, o, none⟩) t.ks.length c3] 26)) w1) := HBL.out.trans (hb1.mono (by omega))
      have HBW : Hid (Below w.heap.size w w1) := ((Below.refl _ _).alloc (Nat.le_refl _) _).trans (HB1.out.mono (by omega))
      have HR1 := Lib.hid hr1
      clear hb1 hr1
      cases r with
      | false =>
        go_wp2_with fail
        go_ret
        exact ⟨false, rfl, (fun h => by cases h), HBW.out⟩
      | true =>
        have HSN : Hid (∀ k (h : k < t.ks.length), k < j + 1 → ShT t.ks[k]) := fun k h h' => by
          by_cases e : k < j
          · exact HSH.out k h e
          · obtain rfl : k = j := by omega
            exact HR1.out rfl
        clear HSH HR1
        go_wp2_with fail
        go_roundg (t.ks.length - (j + 1))
        case measure => omega
        case rel => exact ⟨j + 1, rfl, by omega, by go_num, HSN, HB1⟩
    · obtain rfl : j = t.ks.length := by omega
      have HBW : Hid (Below w.heap.size w wr) := ((Below.refl _ _).alloc (Nat.le_refl _) _).trans (HBL.out.mono (by omega))
      have HFIN : Hid (ShT t) := by
        refine ShT.iff.2 ⟨HP.out.1, HP.out.2, fun x hx => ?_⟩
        obtain ⟨k, hk, rfl⟩ := List.getElem_of_mem hx
        exact HSH.out k hk hk
      obtain ⟨q0, q1, q2, q3, q4, q5, q6, qf⟩ := ((Blk.new w 26 #[.int .i64 13, .string t.nm, .int .i64 t.n, .bool false, .slice A1 t.ns.length c1, .slice A2 t.ms.length c2, .slice A3 t.ks.length c3]).below HBL.out (by omega)).cells7
      clear HSH
      go_wp2_with fail
      go_ret
      exact ⟨true, rfl, (fun _ => HFIN.out), HBW.out⟩

set_option maxHeartbeats 2000000 in
set_option maxRecDepth 100000 in
theorem sh_13_f3 {t : T} (e : t.kd = 13) (hn : t.n = 0) (hf : t.fl = true) : ShAt t := by
  intro cs w S h hS
  obtain ⟨A1, c1, A2, c2, A3, c3, rfl, -, -, hk⟩ := h.forms
  have hlen := ks_max hk
  have HS := Lib.hid hS
  have HK := Lib.hid hk
  rw [e, hf, hn]
  clear e hf hn
  clear h hS hk
  go_enter Try.func45, Try.ntmps45
  go_wp2_with fail
  go_ret
  exact ⟨false, rfl, (fun h => by cases h), (Below.refl _ _).alloc (Nat.le_refl _) _⟩

set_option maxHeartbeats 2000000 in
set_option maxRecDepth 100000 in
theorem sh_13_f4 {t : T} {m : Nat} (e : t.kd = 13) (hn : t.n = m + 1) (hm : m < t.ks.length) (hf : t.fl = true) (h11 : ¬t.ks[m].kd = 11) : ShAt t := by
  intro cs w S h hS
  obtain ⟨A1, c1, A2, c2, A3, c3, rfl, -, -, hk⟩ := h.forms
  have hlen := ks_max hk
  have HS := Lib.hid hS
  have HK := Lib.hid hk
  obtain ⟨b, o, c, B1, d1, B2, d2, B3, d3, hv, hSb, ⟨g0, g1, g2, g3, g4, g5, g6⟩, hkr⟩ := HK.out.at_ hm
  cases hv
  have hbb := HS.out b hSb
  clear hkr g1 g2 g3 g4 g5 g6
  have hb11 : (t.ks[m].kd != 11) = true := by simpa using h11
  rw [e, hf, hn]
  clear e hf hn h11
  clear h hS hk
  go_enter Try.func45, Try.ntmps45
  go_wp2_with fail
  go_ret
  exact ⟨false, rfl, (fun h => by cases h), (Below.refl _ _).alloc (Nat.le_refl _) _⟩

set_option maxHeartbeats 2000000 in
set_option maxRecDepth 100000 in
theorem sh_13_2 {t : T} (ih : ∀ k ∈ t.ks, ShAt k) {m : Nat} (e : t.kd = 13) (hn : t.n = m + 1) (hm : m < t.ks.length) (hf : t.fl = true) (h11 : t.ks[m].kd = 11) : ShAt t := by
  intro cs w S h hS
  obtain ⟨A1, c1, A2, c2, A3, c3, rfl, -, -, hk⟩ := h.forms
  have hlen := ks_max hk
  have HS := Lib.hid hS
  have HK := Lib.hid hk
  have IH := Lib.hid ih
  have HP : Hid ((t.kd = 9 → t.ks.length = 1) ∧ (t.kd = 15 → ∀ x ∈ t.ks, x.kd = 13)) := ⟨fun h => by omega, fun h => by omega⟩
  obtain ⟨b, o, c, B1, d1, B2, d2, B3, d3, hv, hSb, ⟨g0, g1, g2, g3, g4, g5, g6⟩, hkr⟩ := HK.out.at_ hm
  cases hv
  have hbb := HS.out b hSb
  clear hkr g1 g2 g3 g4 g5 g6
  have hb11 : (t.ks[m].kd != 11) = false := by simpa using h11
  rw [e, hf, hn]
  clear e hf ih h11
  clear h hS hk
  go_enter Try.func45, Try.ntmps45
  go_wp2_with fail
  clear g0
  go_loopg [5] t.ks.length (fun d i wr => ∃ (j : Nat), d = t.ks.length - j ∧ j ≤ t.ks.length ∧ i = .int .i64 j ∧ Hid (∀ k (h : k < t.ks.length), k < j → ShT t.ks[k]) ∧ Hid (Below (w.heap.size + 1) (w.alloc (.cells #[.int .i64 13, .string t.nm, .int .i64 (m + 1), .bool true, .slice A1 t.ns.length c1, .slice A2 t.ms.length c2, .slice (some ⟨b, o, none⟩) t.ks.length c3] 26)) wr))
  case atStart => exact ⟨0, by simp, by omega, rfl, (fun k h h' => absurd h' (by omega)), Below.refl _ _⟩
  case round =>
    obtain ⟨j, rfl, hj, rfl, HSH, HBL⟩ := hrel
    have HSX : Hid (SameOn S w wr) := ((SameOn.refl S w).alloc HS.out _).trans (SameOn.of_below HBL.out (fun b hb => by have := HS.out b hb; omega))
    have hzr := HBL.out.size
    simp at hzr
    have hzb : w.heap.size < wr.heap.size := by omega
    have HSR : Hid (Old S wr) := fun b hb => by have := HS.out b hb; omega
    by_cases hlt : j < t.ks.length
    · have hr := HK.out.keep HSX.out (fun _ h => h)
      obtain ⟨b, o, c, B1, d1, B2, d2, B3, d3, hv, hSb, ⟨g0, g1, g2, g3, g4, g5, g6⟩, hkr⟩ := hr.at_ hlt
      cases hv
      have HKR := Lib.hid hkr
      clear hkr hr
      obtain ⟨q0, q1, q2, q3, q4, q5, q6, qf⟩ := ((Blk.new w 26 #[.int .i64 13, .string t.nm, .int .i64 (m + 1), .bool true, .slice A1 t.ns.length c1, .slice A2 t.ms.length c2, .slice (some ⟨b, o, none⟩) t.ks.length c3]).below HBL.out (by omega)).cells7
      go_wp2_with fail
      refine (IH.out _ (List.getElem_mem hlt) [.int .i64 t.ks[j].kd, .string t.ks[j].nm, .int .i64 t.ks[j].n, .bool t.ks[j].fl, .slice B1 t.ks[j].ns.length d1, .slice B2 t.ks[j].ms.length d2, .slice B3 t.ks[j].ks.length d3] _ S HKR.out HSR.out).mono ?_
      rintro e w1 ⟨r, rfl, hr1, hb1⟩
      have hz1 := hb1.size
      have HB1 : Hid (Below (w.heap.size + 1) (w.alloc (.cells #[.int .i64 13, .string t.nm, .int .i64 (m + 1), .bool true, .slice A1 t.ns.length c1, .slice A2 t.ms.length c2, .slice (some ⟨b, o, none⟩) t.ks.length c3] 26)) w1) := HBL.out.trans (hb1.mono (by omega))
      have HBW : Hid (Below w.heap.size w w1) := ((Below.refl _ _).alloc (Nat.le_refl _) _).trans (HB1.out.mono (by omega))
      have HR1 := Lib.hid hr1
      clear hb1 hr1
      cases r with
      | false =>
        go_wp2_with fail
        go_ret
        exact ⟨false, rfl, (fun h => by cases h), HBW.out⟩
      | true =>
        have HSN : Hid (∀ k (h : k < t.ks.length), k < j + 1 → ShT t.ks[k]) := fun k h h' => by
          by_cases e : k < j
          · exact HSH.out k h e
          · obtain rfl : k = j := by omega
            exact HR1.out rfl
        clear HSH HR1
        go_wp2_with fail
        go_roundg (t.ks.length - (j + 1))
        case measure => omega
        case rel => exact ⟨j + 1, rfl, by omega, by go_num, HSN, HB1⟩
    · obtain rfl : j = t.ks.length := by omega
      have HBW : Hid (Below w.heap.size w wr) := ((Below.refl _ _).alloc (Nat.le_refl _) _).trans (HBL.out.mono (by omega))
      have HFIN : Hid (ShT t) := by
        refine ShT.iff.2 ⟨HP.out.1, HP.out.2, fun x hx => ?_⟩
        obtain ⟨k, hk, rfl⟩ := List.getElem_of_mem hx
        exact HSH.out k hk hk
      obtain ⟨q0, q1, q2, q3, q4, q5, q6, qf⟩ := ((Blk.new w 26 #[.int .i64 13, .string t.nm, .int .i64 (m + 1), .bool true, .slice A1 t.ns.length c1, .slice A2 t.ms.length c2, .slice (some ⟨b, o, none⟩) t.ks.length c3]).below HBL.out (by omega)).cells7
      clear HSH
      go_wp2_with fail
      go_ret
      exact ⟨true, rfl, (fun _ => HFIN.out), HBW.out⟩

set_option maxHeartbeats 2000000 in
set_option maxRecDepth 100000 in
theorem sh_14_f1 {t : T} (e : t.kd = 14) (hn : ¬t.ns.length = t.ks.length) : ShAt t := by
  intro cs w S h hS
  obtain ⟨A1, c1, A2, c2, A3, c3, rfl, -, -, hk⟩ := h.forms
  have hlen := ks_max hk
  have HS := Lib.hid hS
  have HK := Lib.hid hk
  have hb : ((t.ns.length : Int) != (t.ks.length : Int)) = true := by simp; omega
  rw [e]
  clear e hn
  clear h hS hk
  go_enter Try.func45, Try.ntmps45
  go_wp2_with fail
  go_ret
  exact ⟨false, rfl, (fun h => by cases h), (Below.refl _ _).alloc (Nat.le_refl _) _⟩

set_option maxHeartbeats 2000000 in
set_option maxRecDepth 100000 in
theorem sh_14_f2 {t : T} (e : t.kd = 14) (hn : t.ns.length = t.ks.length) (hm : ¬t.ms.length = t.ks.length) : ShAt t := by
  intro cs w S h hS
  obtain ⟨A1, c1, A2, c2, A3, c3, rfl, -, -, hk⟩ := h.forms
  have hlen := ks_max hk
  have HS := Lib.hid hS
  have HK := Lib.hid hk
  have hb : ((t.ns.length : Int) != (t.ks.length : Int)) = false := by simp; omega
  have hb2 : ((t.ms.length : Int) != (t.ks.length : Int)) = true := by simp; omega
  rw [e]
  clear e hn hm
  clear h hS hk
  go_enter Try.func45, Try.ntmps45
  go_wp2_with fail
  go_ret
  exact ⟨false, rfl, (fun h => by cases h), (Below.refl _ _).alloc (Nat.le_refl _) _⟩

set_option maxHeartbeats 2000000 in
set_option maxRecDepth 100000 in
theorem sh_14 {t : T} (ih : ∀ k ∈ t.ks, ShAt k) (e : t.kd = 14) (hn : t.ns.length = t.ks.length) (hm : t.ms.length = t.ks.length) : ShAt t := by
  intro cs w S h hS
  obtain ⟨A1, c1, A2, c2, A3, c3, rfl, -, -, hk⟩ := h.forms
  have hlen := ks_max hk
  have HS := Lib.hid hS
  have HK := Lib.hid hk
  have IH := Lib.hid ih
  have hb : ((t.ns.length : Int) != (t.ks.length : Int)) = false := by simp; omega
  have hb2 : ((t.ms.length : Int) != (t.ks.length : Int)) = false := by simp; omega
  have HP : Hid ((t.kd = 9 → t.ks.length = 1) ∧ (t.kd = 15 → ∀ x ∈ t.ks, x.kd = 13)) := ⟨fun h => by omega, fun h => by omega⟩
  rw [e]
  clear e hn hm ih
  clear h hS hk
  go_enter Try.func45, Try.ntmps45
  go_wp2_with fail
  go_loopg [5] t.ks.length (fun d i wr => ∃ (j : Nat), d = t.ks.length - j ∧ j ≤ t.ks.length ∧ i = .int .i64 j ∧ Hid (∀ k (h : k < t.ks.length), k < j → ShT t.ks[k]) ∧ Hid (Below (w.heap.size + 1) (w.alloc (.cells #[.int .i64 14, .string t.nm, .int .i64 t.n, .bool t.fl, .slice A1 t.ns.length c1, .slice A2 t.ms.length c2, .slice A3 t.ks.length c3] 26)) wr))
  case atStart => exact ⟨0, by simp, by omega, rfl, (fun k h h' => absurd h' (by omega)), Below.refl _ _⟩
  case round =>
    obtain ⟨j, rfl, hj, rfl, HSH, HBL⟩ := hrel
    have HSX : Hid (SameOn S w wr) := ((SameOn.refl S w).alloc HS.out _).trans (SameOn.of_below HBL.out (fun b hb => by have := HS.out b hb; omega))
    have hzr := HBL.out.size
    simp at hzr
    have hzb : w.heap.size < wr.heap.size := by omega
    have HSR : Hid (Old S wr) := fun b hb => by have := HS.out b hb; omega
    by_cases hlt : j < t.ks.length
    · have hr := HK.out.keep HSX.out (fun _ h => h)
      obtain ⟨b, o, c, B1, d1, B2, d2, B3, d3, hv, hSb, ⟨g0, g1, g2, g3, g4, g5, g6⟩, hkr⟩ := hr.at_ hlt
      cases hv
      have HKR := Lib.hid hkr
      clear hkr hr
      obtain ⟨q0, q1, q2, q3, q4, q5, q6, qf⟩ := ((Blk.new w 26 #[.int .i64 14, .string t.nm, .int .i64 t.n, .bool t.fl, .slice A1 t.ns.length c1, .slice A2 t.ms.length c2, .slice (some ⟨b, o, none⟩) t.ks.length c3]).below HBL.out (by omega)).cells7
      go_wp2_with fail
      refine (IH.out _ (List.getElem_mem hlt) [.int .i64 t.ks[j].kd, .string t.ks[j].nm, .int .i64 t.ks[j].n, .bool t.ks[j].fl, .slice B1 t.ks[j].ns.length d1, .slice B2 t.ks[j].ms.length d2, .slice B3 t.ks[j].ks.length d3] _ S HKR.out HSR.out).mono ?_
      rintro e w1 ⟨r, rfl, hr1, hb1⟩
      have hz1 := hb1.size
      have HB1 : Hid (Below (w.heap.size + 1) (w.alloc (.cells #[.int .i64 14, .string t.nm, .int .i64 t.n, .bool t.fl, .slice A1 t.ns.length c1, .slice A2 t.ms.length c2, .slice (some ⟨b, o, none⟩) t.ks.length c3] 26)) w1) := HBL.out.trans (hb1.mono (by omega))
      have HBW : Hid (Below w.heap.size w w1) := ((Below.refl _ _).alloc (Nat.le_refl _) _).trans (HB1.out.mono (by omega))
      have HR1 := Lib.hid hr1
      clear hb1 hr1
      cases r with
      | false =>
        go_wp2_with fail
        go_ret
        exact ⟨false, rfl, (fun h => by cases h), HBW.out⟩
      | true =>
        have HSN : Hid (∀ k (h : k < t.ks.length), k < j + 1 → ShT t.ks[k]) := fun k h h' => by
          by_cases e : k < j
          · exact HSH.out k h e
          · obtain rfl : k = j := by omega
            exact HR1.out rfl
        clear HSH HR1
        go_wp2_with fail
        go_roundg (t.ks.length - (j + 1))
        case measure => omega
        case rel => exact ⟨j + 1, rfl, by omega, by go_num, HSN, HB1⟩
    · obtain rfl : j = t.ks.length := by omega
      have HBW : Hid (Below w.heap.size w wr) := ((Below.refl _ _).alloc (Nat.le_refl _) _).trans (HBL.out.mono (by omega))
      have HFIN : Hid (ShT t) := by
        refine ShT.iff.2 ⟨HP.out.1, HP.out.2, fun x hx => ?_⟩
        obtain ⟨k, hk, rfl⟩ := List.getElem_of_mem hx
        exact HSH.out k hk hk
      obtain ⟨q0, q1, q2, q3, q4, q5, q6, qf⟩ := ((Blk.new w 26 #[.int .i64 14, .string t.nm, .int .i64 t.n, .bool t.fl, .slice A1 t.ns.length c1, .slice A2 t.ms.length c2, .slice A3 t.ks.length c3]).below HBL.out (by omega)).cells7
      clear HSH
      go_wp2_with fail
      go_ret
      exact ⟨true, rfl, (fun _ => HFIN.out), HBW.out⟩

set_option maxHeartbeats 2000000 in
set_option maxRecDepth 100000 in
theorem sh_15_f1 {t : T} (e : t.kd = 15) (hn : ¬t.ns.length = t.ks.length) : ShAt t := by
  intro cs w S h hS
  obtain ⟨A1, c1, A2, c2, A3, c3, rfl, -, -, hk⟩ := h.forms
  have hlen := ks_max hk
  have HS := Lib.hid hS
  have HK := Lib.hid hk
  have hb : ((t.ns.length : Int) != (t.ks.length : Int)) = true := by simp; omega
  rw [e]
  clear e hn
  clear h hS hk
  go_enter Try.func45, Try.ntmps45
  go_wp2_with fail
  go_ret
  exact ⟨false, rfl, (fun h => by cases h), (Below.refl _ _).alloc (Nat.le_refl _) _⟩

set_option maxHeartbeats 2000000 in
set_option maxRecDepth 100000 in
theorem sh_15 {t : T} (ih : ∀ k ∈ t.ks, ShAt k) (e : t.kd = 15) (hn : t.ns.length = t.ks.length) : ShAt t := by
  intro cs w S h hS
  obtain ⟨A1, c1, A2, c2, A3, c3, rfl, -, -, hk⟩ := h.forms
  have hlen := ks_max hk
  have HS := Lib.hid hS
  have HK := Lib.hid hk
  have hb : ((t.ns.length : Int) != (t.ks.length : Int)) = false := by simp; omega
  have IH := Lib.hid ih
  have HE := Lib.hid e
  rw [e]
  clear e hn ih
  clear h hS hk
  go_enter Try.func45, Try.ntmps45
  go_wp2_with fail
  go_loopg [4] t.ks.length (fun d i wr => ∃ (j : Nat), d = t.ks.length - j ∧ j ≤ t.ks.length ∧ i = .int .i64 j ∧ Hid (∀ k (h : k < t.ks.length), k < j → t.ks[k].kd = 13) ∧ wr = (w.alloc (.cells #[.int .i64 15, .string t.nm, .int .i64 t.n, .bool t.fl, .slice A1 t.ns.length c1, .slice A2 t.ms.length c2, .slice A3 t.ks.length c3] 26)))
  case atStart => exact ⟨0, by simp, by omega, rfl, (fun k h h' => absurd h' (by omega)), rfl⟩
  case round =>
    obtain ⟨j, rfl, hj, rfl, H13, rfl⟩ := hrel
    by_cases hlt : j < t.ks.length
    · obtain ⟨b, o, c, B1, d1, B2, d2, B3, d3, hv, hSb, ⟨g0, g1, g2, g3, g4, g5, g6⟩, hkr⟩ := HK.out.at_ hlt
      cases hv
      have hbb := HS.out b hSb
      clear hkr g1 g2 g3 g4 g5 g6
      by_cases h13 : t.ks[j].kd = 13
      · rw [h13] at g0
        have HN : Hid (∀ k (h : k < t.ks.length), k < j + 1 → t.ks[k].kd = 13) := fun k h h' => by
          by_cases e : k < j
          · exact H13.out k h e
          · obtain rfl : k = j := by omega
            exact h13
        clear h13 H13
        go_wp2_with fail
        go_roundg (t.ks.length - (j + 1))
        case measure => omega
        case rel => exact ⟨j + 1, rfl, by omega, by go_num, HN, rfl⟩
      · have hb13 : (t.ks[j].kd != 13) = true := by simpa using h13
        clear h13
        go_wp2_with fail
        go_ret
        exact ⟨false, rfl, (fun h => by cases h), (Below.refl _ _).alloc (Nat.le_refl _) _⟩
    · obtain rfl : j = t.ks.length := by omega
      have HP : Hid ((t.kd = 9 → t.ks.length = 1) ∧ (t.kd = 15 → ∀ x ∈ t.ks, x.kd = 13)) := ⟨fun h => by have := HE.out; omega, fun _ x hx => by
        obtain ⟨k, hk, rfl⟩ := List.getElem_of_mem hx
        exact H13.out k hk hk⟩
      clear H13
      go_wp2_with fail
      go_loopg [5] t.ks.length (fun d i wr => ∃ (j : Nat), d = t.ks.length - j ∧ j ≤ t.ks.length ∧ i = .int .i64 j ∧ Hid (∀ k (h : k < t.ks.length), k < j → ShT t.ks[k]) ∧ Hid (Below (w.heap.size + 1) (w.alloc (.cells #[.int .i64 15, .string t.nm, .int .i64 t.n, .bool t.fl, .slice A1 t.ns.length c1, .slice A2 t.ms.length c2, .slice A3 t.ks.length c3] 26)) wr))
      case atStart => exact ⟨0, by simp, by omega, rfl, (fun k h h' => absurd h' (by omega)), Below.refl _ _⟩
      case round =>
        obtain ⟨j, rfl, hj, rfl, HSH, HBL⟩ := hrel
        have HSX : Hid (SameOn S w wr) := ((SameOn.refl S w).alloc HS.out _).trans (SameOn.of_below HBL.out (fun b hb => by have := HS.out b hb; omega))
        have hzr := HBL.out.size
        simp at hzr
        have hzb : w.heap.size < wr.heap.size := by omega
        have HSR : Hid (Old S wr) := fun b hb => by have := HS.out b hb; omega
        by_cases hlt : j < t.ks.length
        · have hr := HK.out.keep HSX.out (fun _ h => h)
          obtain ⟨b, o, c, B1, d1, B2, d2, B3, d3, hv, hSb, ⟨g0, g1, g2, g3, g4, g5, g6⟩, hkr⟩ := hr.at_ hlt
          cases hv
          have HKR := Lib.hid hkr
          clear hkr hr
          obtain ⟨q0, q1, q2, q3, q4, q5, q6, qf⟩ := ((Blk.new w 26 #[.int .i64 15, .string t.nm, .int .i64 t.n, .bool t.fl, .slice A1 t.ns.length c1, .slice A2 t.ms.length c2, .slice (some ⟨b, o, none⟩) t.ks.length c3]).below HBL.out (by omega)).cells7
          go_wp2_with fail
          refine (IH.out _ (List.getElem_mem hlt) [.int .i64 t.ks[j].kd, .string t.ks[j].nm, .int .i64 t.ks[j].n, .bool t.ks[j].fl, .slice B1 t.ks[j].ns.length d1, .slice B2 t.ks[j].ms.length d2, .slice B3 t.ks[j].ks.length d3] _ S HKR.out HSR.out).mono ?_
          rintro e w1 ⟨r, rfl, hr1, hb1⟩
          have hz1 := hb1.size
          have HB1 : Hid (Below (w.heap.size + 1) (w.alloc (.cells #[.int .i64 15, .string t.nm, .int .i64 t.n, .bool t.fl, .slice A1 t.ns.length c1, .slice A2 t.ms.length c2, .slice (some ⟨b, o, none⟩) t.ks.length c3] 26)) w1) := HBL.out.trans (hb1.mono (by omega))
          have HBW : Hid (Below w.heap.size w w1) := ((Below.refl _ _).alloc (Nat.le_refl _) _).trans (HB1.out.mono (by omega))
          have HR1 := Lib.hid hr1
          clear hb1 hr1
          cases r with
          | false =>
            go_wp2_with fail
            go_ret
            exact ⟨false, rfl, (fun h => by cases h), HBW.out⟩
          | true =>
            have HSN : Hid (∀ k (h : k < t.ks.length), k < j + 1 → ShT t.ks[k]) := fun k h h' => by
              by_cases e : k < j
              · exact HSH.out k h e
              · obtain rfl : k = j := by omega
                exact HR1.out rfl
            clear HSH HR1
            go_wp2_with fail
            go_roundg (t.ks.length - (j + 1))
            case measure => omega
            case rel => exact ⟨j + 1, rfl, by omega, by go_num, HSN, HB1⟩
        · obtain rfl : j = t.ks.length := by omega
          have HBW : Hid (Below w.heap.size w wr) := ((Below.refl _ _).alloc (Nat.le_refl _) _).trans (HBL.out.mono (by omega))
          have HFIN : Hid (ShT t) := by
            refine ShT.iff.2 ⟨HP.out.1, HP.out.2, fun x hx => ?_⟩
            obtain ⟨k, hk, rfl⟩ := List.getElem_of_mem hx
            exact HSH.out k hk hk
          obtain ⟨q0, q1, q2, q3, q4, q5, q6, qf⟩ := ((Blk.new w 26 #[.int .i64 15, .string t.nm, .int .i64 t.n, .bool t.fl, .slice A1 t.ns.length c1, .slice A2 t.ms.length c2, .slice A3 t.ks.length c3]).below HBL.out (by omega)).cells7
          clear HSH
          go_wp2_with fail
          go_ret
          exact ⟨true, rfl, (fun _ => HFIN.out), HBW.out⟩

set_option maxHeartbeats 2000000 in
set_option maxRecDepth 100000 in
theorem sh_16 {t : T} (ih : ∀ k ∈ t.ks, ShAt k) (e : t.kd = 16) : ShAt t := by
  intro cs w S h hS
  obtain ⟨A1, c1, A2, c2, A3, c3, rfl, -, -, hk⟩ := h.forms
  have hlen := ks_max hk
  have HS := Lib.hid hS
  have HK := Lib.hid hk
  have IH := Lib.hid ih
  have HP : Hid ((t.kd = 9 → t.ks.length = 1) ∧ (t.kd = 15 → ∀ x ∈ t.ks, x.kd = 13)) := ⟨fun h => by omega, fun h => by omega⟩
  rw [e]
  clear e ih
  clear h hS hk
  go_enter Try.func45, Try.ntmps45
  go_wp2_with fail
  go_loopg [5] t.ks.length (fun d i wr => ∃ (j : Nat), d = t.ks.length - j ∧ j ≤ t.ks.length ∧ i = .int .i64 j ∧ Hid (∀ k (h : k < t.ks.length), k < j → ShT t.ks[k]) ∧ Hid (Below (w.heap.size + 1) (w.alloc (.cells #[.int .i64 16, .string t.nm, .int .i64 t.n, .bool t.fl, .slice A1 t.ns.length c1, .slice A2 t.ms.length c2, .slice A3 t.ks.length c3] 26)) wr))
  case atStart => exact ⟨0, by simp, by omega, rfl, (fun k h h' => absurd h' (by omega)), Below.refl _ _⟩
  case round =>
    obtain ⟨j, rfl, hj, rfl, HSH, HBL⟩ := hrel
    have HSX : Hid (SameOn S w wr) := ((SameOn.refl S w).alloc HS.out _).trans (SameOn.of_below HBL.out (fun b hb => by have := HS.out b hb; omega))
    have hzr := HBL.out.size
    simp at hzr
    have hzb : w.heap.size < wr.heap.size := by omega
    have HSR : Hid (Old S wr) := fun b hb => by have := HS.out b hb; omega
    by_cases hlt : j < t.ks.length
    · have hr := HK.out.keep HSX.out (fun _ h => h)
      obtain ⟨b, o, c, B1, d1, B2, d2, B3, d3, hv, hSb, ⟨g0, g1, g2, g3, g4, g5, g6⟩, hkr⟩ := hr.at_ hlt
      cases hv
      have HKR := Lib.hid hkr
      clear hkr hr
      obtain ⟨q0, q1, q2, q3, q4, q5, q6, qf⟩ := ((Blk.new w 26 #[.int .i64 16, .string t.nm, .int .i64 t.n, .bool t.fl, .slice A1 t.ns.length c1, .slice A2 t.ms.length c2, .slice (some ⟨b, o, none⟩) t.ks.length c3]).below HBL.out (by omega)).cells7
      go_wp2_with fail
      refine (IH.out _ (List.getElem_mem hlt) [.int .i64 t.ks[j].kd, .string t.ks[j].nm, .int .i64 t.ks[j].n, .bool t.ks[j].fl, .slice B1 t.ks[j].ns.length d1, .slice B2 t.ks[j].ms.length d2, .slice B3 t.ks[j].ks.length d3] _ S HKR.out HSR.out).mono ?_
      rintro e w1 ⟨r, rfl, hr1, hb1⟩
      have hz1 := hb1.size
      have HB1 : Hid (Below (w.heap.size + 1) (w.alloc (.cells #[.int .i64 16, .string t.nm, .int .i64 t.n, .bool t.fl, .slice A1 t.ns.length c1, .slice A2 t.ms.length c2, .slice (some ⟨b, o, none⟩) t.ks.length c3] 26)) w1) := HBL.out.trans (hb1.mono (by omega))
      have HBW : Hid (Below w.heap.size w w1) := ((Below.refl _ _).alloc (Nat.le_refl _) _).trans (HB1.out.mono (by omega))
      have HR1 := Lib.hid hr1
      clear hb1 hr1
      cases r with
      | false =>
        go_wp2_with fail
        go_ret
        exact ⟨false, rfl, (fun h => by cases h), HBW.out⟩
      | true =>
        have HSN : Hid (∀ k (h : k < t.ks.length), k < j + 1 → ShT t.ks[k]) := fun k h h' => by
          by_cases e : k < j
          · exact HSH.out k h e
          · obtain rfl : k = j := by omega
            exact HR1.out rfl
        clear HSH HR1
        go_wp2_with fail
        go_roundg (t.ks.length - (j + 1))
        case measure => omega
        case rel => exact ⟨j + 1, rfl, by omega, by go_num, HSN, HB1⟩
    · obtain rfl : j = t.ks.length := by omega
      have HBW : Hid (Below w.heap.size w wr) := ((Below.refl _ _).alloc (Nat.le_refl _) _).trans (HBL.out.mono (by omega))
      have HFIN : Hid (ShT t) := by
        refine ShT.iff.2 ⟨HP.out.1, HP.out.2, fun x hx => ?_⟩
        obtain ⟨k, hk, rfl⟩ := List.getElem_of_mem hx
        exact HSH.out k hk hk
      obtain ⟨q0, q1, q2, q3, q4, q5, q6, qf⟩ := ((Blk.new w 26 #[.int .i64 16, .string t.nm, .int .i64 t.n, .bool t.fl, .slice A1 t.ns.length c1, .slice A2 t.ms.length c2, .slice A3 t.ks.length c3]).below HBL.out (by omega)).cells7
      clear HSH
      go_wp2_with fail
      go_ret
      exact ⟨true, rfl, (fun _ => HFIN.out), HBW.out⟩

set_option maxHeartbeats 2000000 in
set_option maxRecDepth 100000 in
theorem sh_17 {t : T} (ih : ∀ k ∈ t.ks, ShAt k) (e : t.kd = 17) : ShAt t := by
  intro cs w S h hS
  obtain ⟨A1, c1, A2, c2, A3, c3, rfl, -, -, hk⟩ := h.forms
  have hlen := ks_max hk
  have HS := Lib.hid hS
  have HK := Lib.hid hk
  have IH := Lib.hid ih
  have HP : Hid ((t.kd = 9 → t.ks.length = 1) ∧ (t.kd = 15 → ∀ x ∈ t.ks, x.kd = 13)) := ⟨fun h => by omega, fun h => by omega⟩
  rw [e]
  clear e ih
  clear h hS hk
  go_enter Try.func45, Try.ntmps45
  go_wp2_with fail
  go_loopg [5] t.ks.length (fun d i wr => ∃ (j : Nat), d = t.ks.length - j ∧ j ≤ t.ks.length ∧ i = .int .i64 j ∧ Hid (∀ k (h : k < t.ks.length), k < j → ShT t.ks[k]) ∧ Hid (Below (w.heap.size + 1) (w.alloc (.cells #[.int .i64 17, .string t.nm, .int .i64 t.n, .bool t.fl, .slice A1 t.ns.length c1, .slice A2 t.ms.length c2, .slice A3 t.ks.length c3] 26)) wr))
  case atStart => exact ⟨0, by simp, by omega, rfl, (fun k h h' => absurd h' (by omega)), Below.refl _ _⟩
  case round =>
    obtain ⟨j, rfl, hj, rfl, HSH, HBL⟩ := hrel
    have HSX : Hid (SameOn S w wr) := ((SameOn.refl S w).alloc HS.out _).trans (SameOn.of_below HBL.out (fun b hb => by have := HS.out b hb; omega))
    have hzr := HBL.out.size
    simp at hzr
    have hzb : w.heap.size < wr.heap.size := by omega
    have HSR : Hid (Old S wr) := fun b hb => by have := HS.out b hb; omega
    by_cases hlt : j < t.ks.length
    · have hr := HK.out.keep HSX.out (fun _ h => h)
      obtain ⟨b, o, c, B1, d1, B2, d2, B3, d3, hv, hSb, ⟨g0, g1, g2, g3, g4, g5, g6⟩, hkr⟩ := hr.at_ hlt
      cases hv
      have HKR := Lib.hid hkr
      clear hkr hr
      obtain ⟨q0, q1, q2, q3, q4, q5, q6, qf⟩ := ((Blk.new w 26 #[.int .i64 17, .string t.nm, .int .i64 t.n, .bool t.fl, .slice A1 t.ns.length c1, .slice A2 t.ms.length c2, .slice (some ⟨b, o, none⟩) t.ks.length c3]).below HBL.out (by omega)).cells7
      go_wp2_with fail
      refine (IH.out _ (List.getElem_mem hlt) [.int .i64 t.ks[j].kd, .string t.ks[j].nm, .int .i64 t.ks[j].n, .bool t.ks[j].fl, .slice B1 t.ks[j].ns.length d1, .slice B2 t.ks[j].ms.length d2, .slice B3 t.ks[j].ks.length d3] _ S HKR.out HSR.out).mono ?_
      rintro e w1 ⟨r, rfl, hr1, hb1⟩
      have hz1 := hb1.size
      have HB1 : Hid (Below (w.heap.size + 1) (w.alloc (.cells #[.int .i64 17, .string t.nm, .int .i64 t.n, .bool t.fl, .slice A1 t.ns.length c1, .slice A2 t.ms.length c2, .slice (some ⟨b, o, none⟩) t.ks.length c3] 26)) w1) := HBL.out.trans (hb1.mono (by omega))
      have HBW : Hid (Below w.heap.size w w1) := ((Below.refl _ _).alloc (Nat.le_refl _) _).trans (HB1.out.mono (by omega))
      have HR1 := Lib.hid hr1
      clear hb1 hr1
      cases r with
      | false =>
        go_wp2_with fail
        go_ret
        exact ⟨false, rfl, (fun h => by cases h), HBW.out⟩
      | true =>
        have HSN : Hid (∀ k (h : k < t.ks.length), k < j + 1 → ShT t.ks[k]) := fun k h h' => by
          by_cases e : k < j
          · exact HSH.out k h e
          · obtain rfl : k = j := by omega
            exact HR1.out rfl
        clear HSH HR1
        go_wp2_with fail
        go_roundg (t.ks.length - (j + 1))
        case measure => omega
        case rel => exact ⟨j + 1, rfl, by omega, by go_num, HSN, HB1⟩
    · obtain rfl : j = t.ks.length := by omega
      have HBW : Hid (Below w.heap.size w wr) := ((Below.refl _ _).alloc (Nat.le_refl _) _).trans (HBL.out.mono (by omega))
      have HFIN : Hid (ShT t) := by
        refine ShT.iff.2 ⟨HP.out.1, HP.out.2, fun x hx => ?_⟩
        obtain ⟨k, hk, rfl⟩ := List.getElem_of_mem hx
        exact HSH.out k hk hk
      obtain ⟨q0, q1, q2, q3, q4, q5, q6, qf⟩ := ((Blk.new w 26 #[.int .i64 17, .string t.nm, .int .i64 t.n, .bool t.fl, .slice A1 t.ns.length c1, .slice A2 t.ms.length c2, .slice A3 t.ks.length c3]).below HBL.out (by omega)).cells7
      clear HSH
      go_wp2_with fail
      go_ret
      exact ⟨true, rfl, (fun _ => HFIN.out), HBW.out⟩

set_option maxHeartbeats 2000000 in
set_option maxRecDepth 100000 in
theorem sh_else_f {t : T} (n9 : ¬t.kd = 9) (n10 : ¬t.kd = 10) (n11 : ¬t.kd = 11) (n12 : ¬t.kd = 12) (n13 : ¬t.kd = 13) (n14 : ¬t.kd = 14) (n15 : ¬t.kd = 15) (n16 : ¬t.kd = 16) (n17 : ¬t.kd = 17) (hl : ¬t.ks.length = 0) : ShAt t := by
  intro cs w S h hS
  obtain ⟨A1, c1, A2, c2, A3, c3, rfl, -, -, hk⟩ := h.forms
  have hlen := ks_max hk
  have HS := Lib.hid hS
  have HK := Lib.hid hk
  have hb : ((t.ks.length : Int) != 0) = true := by simpa using hl
  have b9 : (t.kd == 9) = false := by simpa using n9
  have b10 : (t.kd == 10) = false := by simpa using n10
  have b11 : (t.kd == 11) = false := by simpa using n11
  have b12 : (t.kd == 12) = false := by simpa using n12
  have b13 : (t.kd == 13) = false := by simpa using n13
  have b14 : (t.kd == 14) = false := by simpa using n14
  have b15 : (t.kd == 15) = false := by simpa using n15
  have b16 : (t.kd == 16) = false := by simpa using n16
  have b17 : (t.kd == 17) = false := by simpa using n17
  clear n9 n10 n11 n12 n13 n14 n15 n16 n17 hl
  clear h hS hk
  go_enter Try.func45, Try.ntmps45
  go_wp2_with fail
  go_ret
  exact ⟨false, rfl, (fun h => by cases h), (Below.refl _ _).alloc (Nat.le_refl _) _⟩

set_option maxHeartbeats 2000000 in
set_option maxRecDepth 100000 in
theorem sh_else {t : T} (ih : ∀ k ∈ t.ks, ShAt k) (n9 : ¬t.kd = 9) (n10 : ¬t.kd = 10) (n11 : ¬t.kd = 11) (n12 : ¬t.kd = 12) (n13 : ¬t.kd = 13) (n14 : ¬t.kd = 14) (n15 : ¬t.kd = 15) (n16 : ¬t.kd = 16) (n17 : ¬t.kd = 17) (hl : t.ks.length = 0) : ShAt t := by
  intro cs w S h hS
  obtain ⟨A1, c1, A2, c2, A3, c3, rfl, -, -, hk⟩ := h.forms
  have hlen := ks_max hk
  have HS := Lib.hid hS
  have HK := Lib.hid hk
  have IH := Lib.hid ih
  have hb : ((t.ks.length : Int) != 0) = false := by simpa using hl
  have HP : Hid ((t.kd = 9 → t.ks.length = 1) ∧ (t.kd = 15 → ∀ x ∈ t.ks, x.kd = 13)) := ⟨fun h => by omega, fun h => by omega⟩
  have b9 : (t.kd == 9) = false := by simpa using n9
  have b10 : (t.kd == 10) = false := by simpa using n10
  have b11 : (t.kd == 11) = false := by simpa using n11
  have b12 : (t.kd == 12) = false := by simpa using n12
  have b13 : (t.kd == 13) = false := by simpa using n13
  have b14 : (t.kd == 14) = false := by simpa using n14
  have b15 : (t.kd == 15) = false := by simpa using n15
  have b16 : (t.kd == 16) = false := by simpa using n16
  have b17 : (t.kd == 17) = false := by simpa using n17
  clear n9 n10 n11 n12 n13 n14 n15 n16 n17 hl ih
  clear h hS hk
  go_enter Try.func45, Try.ntmps45
  go_wp2_with fail
  go_loopg [5] t.ks.length (fun d i wr => ∃ (j : Nat), d = t.ks.length - j ∧ j ≤ t.ks.length ∧ i = .int .i64 j ∧ Hid (∀ k (h : k < t.ks.length), k < j → ShT t.ks[k]) ∧ Hid (Below (w.heap.size + 1) (w.alloc (.cells #[.int .i64 t.kd, .string t.nm, .int .i64 t.n, .bool t.fl, .slice A1 t.ns.length c1, .slice A2 t.ms.length c2, .slice A3 t.ks.length c3] 26)) wr))
  case atStart => exact ⟨0, by simp, by omega, rfl, (fun k h h' => absurd h' (by omega)), Below.refl _ _⟩
  case round =>
    obtain ⟨j, rfl, hj, rfl, HSH, HBL⟩ := hrel
    have HSX : Hid (SameOn S w wr) := ((SameOn.refl S w).alloc HS.out _).trans (SameOn.of_below HBL.out (fun b hb => by have := HS.out b hb; omega))
    have hzr := HBL.out.size
    simp at hzr
    have hzb : w.heap.size < wr.heap.size := by omega
    have HSR : Hid (Old S wr) := fun b hb => by have := HS.out b hb; omega
    by_cases hlt : j < t.ks.length
    · have hr := HK.out.keep HSX.out (fun _ h => h)
      obtain ⟨b, o, c, B1, d1, B2, d2, B3, d3, hv, hSb, ⟨g0, g1, g2, g3, g4, g5, g6⟩, hkr⟩ := hr.at_ hlt
      cases hv
      have HKR := Lib.hid hkr
      clear hkr hr
      obtain ⟨q0, q1, q2, q3, q4, q5, q6, qf⟩ := ((Blk.new w 26 #[.int .i64 t.kd, .string t.nm, .int .i64 t.n, .bool t.fl, .slice A1 t.ns.length c1, .slice A2 t.ms.length c2, .slice (some ⟨b, o, none⟩) t.ks.length c3]).below HBL.out (by omega)).cells7
      go_wp2_with fail
      refine (IH.out _ (List.getElem_mem hlt) [.int .i64 t.ks[j].kd, .string t.ks[j].nm, .int .i64 t.ks[j].n, .bool t.ks[j].fl, .slice B1 t.ks[j].ns.length d1, .slice B2 t.ks[j].ms.length d2, .slice B3 t.ks[j].ks.length d3] _ S HKR.out HSR.out).mono ?_
      rintro e w1 ⟨r, rfl, hr1, hb1⟩
      have hz1 := hb1.size
      have HB1 : Hid (Below (w.heap.size + 1) (w.alloc (.cells #[.int .i64 t.kd, .string t.nm, .int .i64 t.n, .bool t.fl, .slice A1 t.ns.length c1, .slice A2 t.ms.length c2, .slice (some ⟨b, o, none⟩) t.ks.length c3] 26)) w1) := HBL.out.trans (hb1.mono (by omega))
      have HBW : Hid (Below w.heap.size w w1) := ((Below.refl _ _).alloc (Nat.le_refl _) _).trans (HB1.out.mono (by omega))
      have HR1 := Lib.hid hr1
      clear hb1 hr1
      cases r with
      | false =>
        go_wp2_with fail
        go_ret
        exact ⟨false, rfl, (fun h => by cases h), HBW.out⟩
      | true =>
        have HSN : Hid (∀ k (h : k < t.ks.length), k < j + 1 → ShT t.ks[k]) := fun k h h' => by
          by_cases e : k < j
          · exact HSH.out k h e
          · obtain rfl : k = j := by omega
            exact HR1.out rfl
        clear HSH HR1
        go_wp2_with fail
        go_roundg (t.ks.length - (j + 1))
        case measure => omega
        case rel => exact ⟨j + 1, rfl, by omega, by go_num, HSN, HB1⟩
    · obtain rfl : j = t.ks.length := by omega
      have HBW : Hid (Below w.heap.size w wr) := ((Below.refl _ _).alloc (Nat.le_refl _) _).trans (HBL.out.mono (by omega))
      have HFIN : Hid (ShT t) := by
        refine ShT.iff.2 ⟨HP.out.1, HP.out.2, fun x hx => ?_⟩
        obtain ⟨k, hk, rfl⟩ := List.getElem_of_mem hx
        exact HSH.out k hk hk
      obtain ⟨q0, q1, q2, q3, q4, q5, q6, qf⟩ := ((Blk.new w 26 #[.int .i64 t.kd, .string t.nm, .int .i64 t.n, .bool t.fl, .slice A1 t.ns.length c1, .slice A2 t.ms.length c2, .slice A3 t.ks.length c3]).below HBL.out (by omega)).cells7
      clear HSH
      go_wp2_with fail
      go_ret
      exact ⟨true, rfl, (fun _ => HFIN.out), HBW.out⟩

theorem shaped_step {t : T} (ih : ∀ k ∈ t.ks, ShAt k) : ShAt t := by
  by_cases n9 : t.kd = 9
  · by_cases hl : t.ks.length = 1
    · exact sh_9 ih n9 hl
    · exact sh_9_f n9 hl
  by_cases n10 : t.kd = 10
  · by_cases hl : t.ks.length = 1
    · exact sh_10 ih n10 hl
    · exact sh_ptr_f (by omega) hl
  by_cases n11 : t.kd = 11
  · by_cases hl : t.ks.length = 1
    · exact sh_11 ih n11 hl
    · exact sh_ptr_f (by omega) hl
  by_cases n12 : t.kd = 12
  · by_cases hl : t.ks.length = 1
    · exact sh_12 ih n12 hl
    · exact sh_ptr_f (by omega) hl
  by_cases n13 : t.kd = 13
  · by_cases h1 : t.n < 0
    · exact sh_13_f1 n13 h1
    by_cases h2 : (t.ks.length : Int) < t.n
    · exact sh_13_f2 n13 h1 h2
    by_cases hf : t.fl = true
    · by_cases h0 : t.n = 0
      · exact sh_13_f3 n13 h0 hf
      · obtain ⟨m, hm⟩ : ∃ m : Nat, t.n = m + 1 := ⟨(t.n - 1).toNat, by omega⟩
        have hl : m < t.ks.length := by omega
        by_cases h11 : t.ks[m].kd = 11
        · exact sh_13_2 ih n13 hm hl hf h11
        · exact sh_13_f4 n13 hm hl hf h11
    · exact sh_13_1 ih n13 h1 h2 (by simpa using hf)
  by_cases n14 : t.kd = 14
  · by_cases h1 : t.ns.length = t.ks.length
    · by_cases h2 : t.ms.length = t.ks.length
      · exact sh_14 ih n14 h1 h2
      · exact sh_14_f2 n14 h1 h2
    · exact sh_14_f1 n14 h1
  by_cases n15 : t.kd = 15
  · by_cases h1 : t.ns.length = t.ks.length
    · exact sh_15 ih n15 h1
    · exact sh_15_f1 n15 h1
  by_cases n16 : t.kd = 16
  · exact sh_16 ih n16
  by_cases n17 : t.kd = 17
  · exact sh_17 ih n17
  by_cases hl : t.ks.length = 0
  · exact sh_else ih n9 n10 n11 n12 n13 n14 n15 n16 n17 hl
  · exact sh_else_f n9 n10 n11 n12 n13 n14 n15 n16 n17 hl
theorem shaped_any : ∀ (n : Nat) (t : T), t.sz ≤ n → ShAt t
  | 0, t, h => by obtain ⟨k, nm, n, f, ns, ms, ks⟩ := t; rw [sz_mk] at h; omega
  | n + 1, t, h => shaped_step fun k hk => shaped_any n k (by
      obtain ⟨i, hi, rfl⟩ := List.getElem_of_mem hk
      have := szL_mem hi
      have e : t.sz = T.szL t.ks + 1 := by obtain ⟨k, nm, n, f, ns, ms, ks⟩ := t; rw [sz_mk]; rfl
      omega)
theorem shaped_calls {t : T} {cs : List Value} {w : World} {S : Nat → Prop} (h : TyR w S t cs) (hS : Old S w) : Calls Try.prog 45 #[.agg cs.toArray] w (ShRes t w) :=
  shaped_any t.sz t (Nat.le_refl _) cs w S h hS
end Go.Proofs.Ytanhdklaponekaa
