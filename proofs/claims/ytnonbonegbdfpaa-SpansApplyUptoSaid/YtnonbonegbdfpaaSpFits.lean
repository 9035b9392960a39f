/- recastalike.Fits: few files are few. -/
import Derived.Test.YtnonbonegbdfpaaSpAlike
namespace Go.Proofs.Ytnonbonegbdfpaa
open Go Go.RowKit

def fiS (fs : List Fi) : Nat → Nat
  | 0 => fs.length
  | j + 1 => fiS fs j + (fAt fs j).tx.size + (fAt fs j).p.size
theorem fiS_ge (fs : List Fi) : ∀ j, fs.length ≤ fiS fs j
  | 0 => Nat.le_refl _
  | j + 1 => by have := fiS_ge fs j; unfold fiS; omega
theorem fiS_at (fs : List Fi) : ∀ {j i : Nat}, i < j → (fAt fs i).tx.size + (fAt fs i).p.size ≤ fiS fs j
  | j + 1, i, h => by
    unfold fiS
    rcases Nat.lt_or_ge i j with h1 | h1
    · have := fiS_at fs h1; omega
    · obtain rfl : i = j := by omega
      omega

def FitsRes (fs : List Fi) (w : World) (e : Ending) (w' : World) : Prop :=
  ((e = .returned (.bool true) ∧ fiS fs fs.length ≤ 6000) ∨ e = .returned (.bool false)) ∧ Below w.heap.size w w'

set_option maxHeartbeats 2000000 in
set_option maxRecDepth 100000 in
theorem fits_calls {fs : List Fi} {v : Value} {w : World} {S : Nat → Prop} (h : Row w S 2 v fs.length (flatF fs)) (hb : fs.length * 32 ≤ 140737488355328) (hp : ∀ f ∈ fs, f.p.size ≤ 140737488355328 ∧ f.tx.size ≤ 140737488355328) :
    Calls Try.prog 16 #[v] w (FitsRes fs w) := by
  have HRES : ∀ e w', FitsRes fs w e w' → FitsRes fs w e w' := fun _ _ h => h
  have HR := Lib.hid HRES
  clear HRES
  obtain ⟨A, cap, rfl, hlen⟩ := h.form
  have H := Lib.hid h
  have HP := Lib.hid hp
  clear h hp
  have hlm : fs.length ≤ 281474976710656 := by omega
  clear hb
  go_enter Try.func16, Try.ntmps16
  go_wp2_with fail
  go_loopg [4, 3] fs.length (fun d i n wr => ∃ (j q : Nat), d = fs.length - j ∧ j ≤ fs.length ∧ i = .int .i64 j ∧ n = .int .i64 (fiS fs j : Nat) ∧ fiS fs j ≤ 1000000000000000 ∧ wr = w.drewN q)
  case atStart => exact ⟨0, 0, by simp, by omega, rfl, rfl, by unfold fiS; omega, rfl⟩
  case round =>
    obtain ⟨j, q, rfl, hj, rfl, rfl, hS, rfl⟩ := hrel
    by_cases hlt : j < fs.length
    · by_cases hbig : 6000 < fiS fs j
      · have hbI : ¬((fiS fs j : Nat) : Int) ≤ 6000 := by omega
        have hbI2 : decide (((fiS fs j : Nat) : Int) ≤ 6000) = false := decide_eq_false hbI
        go_wp2_with fail
        go_ret
        exact HR.out _ _ ⟨.inr (by simp), below_drewN (Below.refl _ _) _⟩
      · have hbI : ((fiS fs j : Nat) : Int) ≤ 6000 := by omega
        obtain ⟨b, o, rfl, -, hnc, a0, a1⟩ := row_at2 H.out hlt rfl
        obtain ⟨hp4, hp3⟩ := HP.out fs[j] (List.getElem_mem hlt)
        have hn : fiS fs (j + 1) = fiS fs j + fs[j].tx.size + fs[j].p.size := by rw [fiS, fAt_at hlt]
        have HN := Lib.hid hn
        clear hn
        go_wp2_with fail
        go_quiet (fail)
        go_wp2_with fail
        go_roundg (fs.length - (j + 1))
        case measure => omega
        case rel => exact ⟨j + 1, _, rfl, by omega, by go_num, by rw [HN.out]; go_num, by rw [HN.out]; omega, rfl⟩
    · obtain rfl : j = fs.length := by omega
      by_cases hbig : 6000 < fiS fs fs.length
      · have hbI : ¬((fiS fs fs.length : Nat) : Int) ≤ 6000 := by omega
        go_wp2_with fail
        go_ret
        exact HR.out _ _ ⟨.inr (by simp), below_drewN (Below.refl _ _) _⟩
      · have hbI : ((fiS fs fs.length : Nat) : Int) ≤ 6000 := by omega
        go_wp2_with fail
        go_ret
        exact HR.out _ _ ⟨.inl ⟨by simp, by omega⟩, below_drewN (Below.refl _ _) _⟩
end Go.Proofs.Ytnonbonegbdfpaa
