/- types.World.Comparable of a world that is none: what it computes; its closures. -/
import Derived.Test.YtanhdklaponekaaNilU
import Derived.Test.YtanhdklaponekaaTLaw
namespace Go.Proofs.Ytanhdklaponekaa
open Go Go.RowKit

section
variable (f : T → Bool)
def cmpB (t : T) : Bool :=
  if t.kd = 1 ∨ t.kd = 2 ∨ t.kd = 3 ∨ t.kd = 4 ∨ t.kd = 5 ∨ t.kd = 6 ∨ t.kd = 10 ∨ t.kd = 12 ∨ t.kd = 15 then true
  else if t.kd = 14 then t.ks.all f
  else if t.kd = 9 ∧ (t.kid 0).kd = 16 then (decide ((t.kid 0).n = 1) || (t.kid 0).ks.all f)
  else false
end
/-- Comparable, by fuel -/
def cmp : Nat → T → Bool
  | 0, _ => false
  | n + 1, t => cmpB (cmp n) t

/-- Comparable's contract at t -/
def CmpAt (f : T → Bool) (t : T) : Prop := ∀ (cs : List Value) (w : World) (S : Nat → Prop), TyR w S t cs → Old S w →
  Calls Try.prog 25 #[.pointer none, .agg cs.toArray] w fun e w' => e = .returned (.bool (f t)) ∧ Below w.heap.size w w'

/-- the closures -/
theorem not1 {f : T → Bool} {t : T} (ih : CmpAt f t) {cs : List Value} {w : World} {S : Nat → Prop} {g : Nat} (h : TyR w S t cs) (hS : Old S w) (hg : g < w.heap.size) (hc : w.cell? ⟨g, 0, none⟩ = some (.pointer none)) :
    Calls Try.prog 57 #[.agg cs.toArray, .pointer (some ⟨g, 0, none⟩)] w fun e w' => e = .returned (.bool (!f t)) ∧ Below w.heap.size w w' := by
  obtain ⟨A1, c1, A2, c2, A3, c3, rfl, -⟩ := h.forms
  have H := Lib.hid h
  have HS := Lib.hid hS
  have IH := Lib.hid ih
  clear h hS ih
  go_enter Try.func57, Try.ntmps57
  go_wp2_with fail
  refine (IH.out _ _ S (H.out.keep ((SameOn.refl _ _).alloc HS.out _) (fun _ h => h)) (HS.out.alloc _)).mono ?_
  rintro e w1 ⟨rfl, hb1⟩
  have HB : Hid (Below w.heap.size w w1) := ((Below.refl _ _).alloc (Nat.le_refl _) _).trans (hb1.mono (by simp))
  clear hb1
  go_wp2_with fail
  go_ret
  exact ⟨rfl, HB.out⟩
theorem not2 {f : T → Bool} {t : T} (ih : CmpAt f t) {cs : List Value} {w : World} {S : Nat → Prop} {g : Nat} (h : TyR w S t cs) (hS : Old S w) (hg : g < w.heap.size) (hc : w.cell? ⟨g, 0, none⟩ = some (.pointer none)) :
    Calls Try.prog 59 #[.agg cs.toArray, .pointer (some ⟨g, 0, none⟩)] w fun e w' => e = .returned (.bool (!f t)) ∧ Below w.heap.size w w' := by
  obtain ⟨A1, c1, A2, c2, A3, c3, rfl, -⟩ := h.forms
  have H := Lib.hid h
  have HS := Lib.hid hS
  have IH := Lib.hid ih
  clear h hS ih
  go_enter Try.func59, Try.ntmps59
  go_wp2_with fail
  refine (IH.out _ _ S (H.out.keep ((SameOn.refl _ _).alloc HS.out _) (fun _ h => h)) (HS.out.alloc _)).mono ?_
  rintro e w1 ⟨rfl, hb1⟩
  have HB : Hid (Below w.heap.size w w1) := ((Below.refl _ _).alloc (Nat.le_refl _) _).trans (hb1.mono (by simp))
  clear hb1
  go_wp2_with fail
  go_ret
  exact ⟨rfl, HB.out⟩

def IdxRes (f : T → Bool) (ts : List T) (w : World) (e : Ending) (w' : World) : Prop := ∃ i : Int, e = .returned (.int .i64 i) ∧ decide (0 ≤ i) = !(ts.all f) ∧ Below w.heap.size w w'

theorem all_pre {f : T → Bool} {ts : List T} {j : Nat} (h : ∀ i (hi : i < ts.length), i < j → f ts[i] = true) (hj : j = ts.length) : ts.all f = true := by
  rw [List.all_eq_true]
  intro x hx
  obtain ⟨i, hi, rfl⟩ := List.getElem_of_mem hx
  exact h i hi (by omega)
theorem all_at {f : T → Bool} {ts : List T} {j : Nat} (hj : j < ts.length) (h : f ts[j] = false) : ts.all f = false := by
  rw [List.all_eq_false]
  exact ⟨_, List.getElem_mem hj, by rw [h]; simp⟩

set_option maxHeartbeats 1000000 in
theorem index1 {f : T → Bool} {ts : List T} {v : Value} {w : World} {S : Nat → Prop} {g : Nat} (ih : ∀ k ∈ ts, CmpAt f k) (h : RowT w S v ts) (hS : Old S w) (hg : g < w.heap.size) (hc : w.cell? ⟨g, 0, none⟩ = some (.pointer none)) :
    Calls Try.prog 72 #[v, .func (.func 57) #[] #[.pointer (some ⟨g, 0, none⟩)]] w (IdxRes f ts w) := by
  have hlen : ts.length ≤ 9223372036854775807 := by obtain ⟨_, _, _, h⟩ := h.form; exact h
  obtain ⟨A, cap, rfl, -⟩ := h.form
  have H := Lib.hid h
  have HS := Lib.hid hS
  have IH := Lib.hid ih
  have HC := Lib.hid hc
  clear h hS ih hc
  go_enter Try.func72, Try.ntmps72
  go_wp2_with fail
  go_loopg [8] ts.length (fun d i wr => ∃ (j : Nat), d = ts.length - j ∧ j ≤ ts.length ∧ i = .int .i64 j ∧ Hid (∀ k (h : k < ts.length), k < j → f ts[k] = true) ∧ Hid (Below w.heap.size w wr))
  case atStart => exact ⟨0, by simp, by omega, rfl, (fun k h h' => absurd h' (by omega)), Below.refl _ _⟩
  case round =>
    obtain ⟨j, rfl, hj, rfl, HSH, HBL⟩ := hrel
    have HSX : Hid (SameOn S w wr) := SameOn.of_below HBL.out HS.out
    have hzr := HBL.out.size
    have HSR : Hid (Old S wr) := HS.out.below HBL.out
    by_cases hlt : j < ts.length
    · have hr := H.out.keep HSX.out (fun _ h => h)
      obtain ⟨b, o, c, B1, d1, B2, d2, B3, d3, hv, hSb, ⟨g0, g1, g2, g3, g4, g5, g6⟩, hkr⟩ := hr.at_ hlt
      cases hv
      have HKR := Lib.hid hkr
      clear hkr hr
      go_wp2_with fail
      refine (not1 (f := f) (t := ts[j]) (g := g) (S := S) (IH.out _ (List.getElem_mem hlt)) (cs := [.int .i64 ts[j].kd, .string ts[j].nm, .int .i64 ts[j].n, .bool ts[j].fl, .slice B1 ts[j].ns.length d1, .slice B2 ts[j].ms.length d2, .slice B3 ts[j].ks.length d3]) HKR.out HSR.out (by omega) ((cell_below HBL.out hg).trans HC.out)).mono ?_
      rintro e w1 ⟨rfl, hb1⟩
      have hz1 := hb1.size
      have HB1 : Hid (Below w.heap.size w w1) := HBL.out.trans (hb1.mono (by omega))
      clear hb1
      cases hf : f ts[j] with
      | false =>
        have HF : Hid (ts.all f = false) := all_at hlt hf
        clear hf
        go_wp2_with fail
        go_ret
        exact ⟨j, rfl, by rw [HF.out]; simp, HB1.out⟩
      | true =>
        have HSN : Hid (∀ k (h : k < ts.length), k < j + 1 → f ts[k] = true) := fun k h h' => by
          by_cases e : k < j
          · exact HSH.out k h e
          · obtain rfl : k = j := by omega
            exact hf
        clear HSH hf
        go_wp2_with fail
        go_roundg (ts.length - (j + 1))
        case measure => omega
        case rel => exact ⟨j + 1, rfl, by omega, by go_num, HSN, HB1⟩
    · obtain rfl : j = ts.length := by omega
      have HF : Hid (ts.all f = true) := all_pre HSH.out rfl
      clear HSH
      go_wp2_with fail
      go_ret
      exact ⟨-1, rfl, by rw [HF.out]; rfl, HBL.out⟩
theorem contains1 {f : T → Bool} {ts : List T} {v : Value} {w : World} {S : Nat → Prop} {g : Nat} (ih : ∀ k ∈ ts, CmpAt f k) (h : RowT w S v ts) (hS : Old S w) (hg : g < w.heap.size) (hc : w.cell? ⟨g, 0, none⟩ = some (.pointer none)) :
    Calls Try.prog 56 #[v, .func (.func 57) #[] #[.pointer (some ⟨g, 0, none⟩)]] w fun e w' => e = .returned (.bool (!(ts.all f))) ∧ Below w.heap.size w w' := by
  obtain ⟨A, cap, rfl, -⟩ := h.form
  have H := Lib.hid h
  have HS := Lib.hid hS
  have IH := Lib.hid ih
  have HC := Lib.hid hc
  clear h hS ih hc
  go_enter Try.func56, Try.ntmps56
  go_wp2_with fail
  refine (index1 (f := f) (g := g) IH.out H.out HS.out hg HC.out).mono ?_
  rintro e w1 ⟨i, rfl, hi, hb1⟩
  have HI := Lib.hid hi
  have HB1 := Lib.hid hb1
  clear hi hb1
  go_wp2_with fail
  go_ret
  exact ⟨by rw [← HI.out]; rfl, HB1.out⟩

set_option maxHeartbeats 1000000 in
theorem index2 {f : T → Bool} {ts : List T} {v : Value} {w : World} {S : Nat → Prop} {g : Nat} (ih : ∀ k ∈ ts, CmpAt f k) (h : RowT w S v ts) (hS : Old S w) (hg : g < w.heap.size) (hc : w.cell? ⟨g, 0, none⟩ = some (.pointer none)) :
    Calls Try.prog 72 #[v, .func (.func 59) #[] #[.pointer (some ⟨g, 0, none⟩)]] w (IdxRes f ts w) := by
  have hlen : ts.length ≤ 9223372036854775807 := by obtain ⟨_, _, _, h⟩ := h.form; exact h
  obtain ⟨A, cap, rfl, -⟩ := h.form
  have H := Lib.hid h
  have HS := Lib.hid hS
  have IH := Lib.hid ih
  have HC := Lib.hid hc
  clear h hS ih hc
  go_enter Try.func72, Try.ntmps72
  go_wp2_with fail
  go_loopg [8] ts.length (fun d i wr => ∃ (j : Nat), d = ts.length - j ∧ j ≤ ts.length ∧ i = .int .i64 j ∧ Hid (∀ k (h : k < ts.length), k < j → f ts[k] = true) ∧ Hid (Below w.heap.size w wr))
  case atStart => exact ⟨0, by simp, by omega, rfl, (fun k h h' => absurd h' (by omega)), Below.refl _ _⟩
  case round =>
    obtain ⟨j, rfl, hj, rfl, HSH, HBL⟩ := hrel
    have HSX : Hid (SameOn S w wr) := SameOn.of_below HBL.out HS.out
    have hzr := HBL.out.size
    have HSR : Hid (Old S wr) := HS.out.below HBL.out
    by_cases hlt : j < ts.length
    · have hr := H.out.keep HSX.out (fun _ h => h)
      obtain ⟨b, o, c, B1, d1, B2, d2, B3, d3, hv, hSb, ⟨g0, g1, g2, g3, g4, g5, g6⟩, hkr⟩ := hr.at_ hlt
      cases hv
      have HKR := Lib.hid hkr
      clear hkr hr
      go_wp2_with fail
      refine (not2 (f := f) (t := ts[j]) (g := g) (S := S) (IH.out _ (List.getElem_mem hlt)) (cs := [.int .i64 ts[j].kd, .string ts[j].nm, .int .i64 ts[j].n, .bool ts[j].fl, .slice B1 ts[j].ns.length d1, .slice B2 ts[j].ms.length d2, .slice B3 ts[j].ks.length d3]) HKR.out HSR.out (by omega) ((cell_below HBL.out hg).trans HC.out)).mono ?_
      rintro e w1 ⟨rfl, hb1⟩
      have hz1 := hb1.size
      have HB1 : Hid (Below w.heap.size w w1) := HBL.out.trans (hb1.mono (by omega))
      clear hb1
      cases hf : f ts[j] with
      | false =>
        have HF : Hid (ts.all f = false) := all_at hlt hf
        clear hf
        go_wp2_with fail
        go_ret
        exact ⟨j, rfl, by rw [HF.out]; simp, HB1.out⟩
      | true =>
        have HSN : Hid (∀ k (h : k < ts.length), k < j + 1 → f ts[k] = true) := fun k h h' => by
          by_cases e : k < j
          · exact HSH.out k h e
          · obtain rfl : k = j := by omega
            exact hf
        clear HSH hf
        go_wp2_with fail
        go_roundg (ts.length - (j + 1))
        case measure => omega
        case rel => exact ⟨j + 1, rfl, by omega, by go_num, HSN, HB1⟩
    · obtain rfl : j = ts.length := by omega
      have HF : Hid (ts.all f = true) := all_pre HSH.out rfl
      clear HSH
      go_wp2_with fail
      go_ret
      exact ⟨-1, rfl, by rw [HF.out]; rfl, HBL.out⟩
theorem contains2 {f : T → Bool} {ts : List T} {v : Value} {w : World} {S : Nat → Prop} {g : Nat} (ih : ∀ k ∈ ts, CmpAt f k) (h : RowT w S v ts) (hS : Old S w) (hg : g < w.heap.size) (hc : w.cell? ⟨g, 0, none⟩ = some (.pointer none)) :
    Calls Try.prog 56 #[v, .func (.func 59) #[] #[.pointer (some ⟨g, 0, none⟩)]] w fun e w' => e = .returned (.bool (!(ts.all f))) ∧ Below w.heap.size w w' := by
  obtain ⟨A, cap, rfl, -⟩ := h.form
  have H := Lib.hid h
  have HS := Lib.hid hS
  have IH := Lib.hid ih
  have HC := Lib.hid hc
  clear h hS ih hc
  go_enter Try.func56, Try.ntmps56
  go_wp2_with fail
  refine (index2 (f := f) (g := g) IH.out H.out HS.out hg HC.out).mono ?_
  rintro e w1 ⟨i, rfl, hi, hb1⟩
  have HI := Lib.hid hi
  have HB1 := Lib.hid hb1
  clear hi hb1
  go_wp2_with fail
  go_ret
  exact ⟨by rw [← HI.out]; rfl, HB1.out⟩

end Go.Proofs.Ytanhdklaponekaa
