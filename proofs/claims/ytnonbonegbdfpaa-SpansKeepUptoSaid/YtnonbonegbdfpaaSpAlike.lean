/- recastalike.Edits, Files: the same data are alike. -/
import Derived.Test.YtnonbonegbdfpaaSpFile
namespace Go.Proofs.Ytnonbonegbdfpaa
open Go Go.RowKit

/-- the four cells of edit i -/
theorem row_at4 {w : World} {S : Nat → Prop} {A : Option Addr} {n cap : Nat} {l : List Ed} (h : Row w S 4 (.slice A n cap) n (flat l)) {i : Nat} (hi : i < l.length) (hn : l.length = n) :
    ∃ b o, A = some ⟨b, o, none⟩ ∧ S b ∧ n ≤ cap ∧ w.cell? ⟨b, o + i * 4, none⟩ = some (.string l[i].p) ∧ w.cell? ⟨b, o + i * 4 + 1, none⟩ = some (.int .i64 l[i].fr) ∧ w.cell? ⟨b, o + i * 4 + 2, none⟩ = some (.int .i64 l[i].to) ∧ w.cell? ⟨b, o + i * 4 + 3, none⟩ = some (.string l[i].tx) := by
  obtain ⟨h1, A', cap', e, h2, h3, h0, h4⟩ := h
  cases e
  obtain ⟨b, o, rfl, h5, h7⟩ := h4 (by omega)
  obtain ⟨x0, x1, x2, x3⟩ := flat_at hi
  exact ⟨b, o, rfl, h5, h2, h7 _ _ x0, by rw [Nat.add_assoc]; exact h7 _ _ x1, by rw [Nat.add_assoc]; exact h7 _ _ x2, by rw [Nat.add_assoc]; exact h7 _ _ x3⟩
theorem fi_eql (x : Fi) (w : World) : (Op.equalIn 10000 43 (.agg #[.string x.p, .string x.tx]) (.agg #[.string x.p, .string x.tx])).run Try.prog w = .ok true w := by
  have u9 := Try.underlying9
  have hS : Try.prog.underlying 43 = some (.struct (Try.prog.fieldsOf 43)) := by kernel_rfl
  have hp : Try.prog.stoodInHeld 43 = false := by kernel_rfl
  rw [show (10000 : Nat) = 9999 + 1 from rfl, run_equalIn_agg w 9999 43 _ _ hS hp]
  simp only [Program.fieldsOf, Try.underlying43]
  go_simp
theorem fi_guard : Try.prog.eqGuardType Try.prog.depth 43 = false := by kernel_rfl

set_option maxHeartbeats 2000000 in
set_option maxRecDepth 100000 in
theorem files_calls {fs : List Fi} {v u : Value} {w : World} {S S' : Nat → Prop} (h : Row w S 2 v fs.length (flatF fs)) (h' : Row w S' 2 u fs.length (flatF fs)) :
    Calls Try.prog 19 #[v, u] w fun e w' => e = .returned (.bool true) ∧ Below w.heap.size w w' := by
  obtain ⟨A, cap, rfl, hlen⟩ := h.form
  obtain ⟨A', cap', rfl, -⟩ := h'.form
  have H := Lib.hid h
  have H' := Lib.hid h'
  have hgd := fi_guard
  clear h h'
  go_enter Try.func19, Try.ntmps19
  go_wp2_with fail
  go_loopg [5] fs.length (fun d i wr => ∃ (j q : Nat), d = fs.length - j ∧ j ≤ fs.length ∧ i = .int .i64 j ∧ wr = w.drewN q)
  case atStart => exact ⟨0, 0, by simp, by omega, rfl, rfl⟩
  case round =>
    obtain ⟨j, q, rfl, hj, rfl, rfl⟩ := hrel
    by_cases hlt : j < fs.length
    · obtain ⟨b, o, rfl, -, hnc, a0, a1⟩ := row_at2 H.out hlt rfl
      obtain ⟨b', o', rfl, -, hnc', a0', a1'⟩ := row_at2 H'.out hlt rfl
      have heq := fi_eql fs[j]
      go_wp2_with fail
      go_quiet (fail)
      go_wp2_with fail
      go_roundg (fs.length - (j + 1))
      case measure => omega
      case rel => exact ⟨j + 1, _, rfl, by omega, by go_num, rfl⟩
    · obtain rfl : j = fs.length := by omega
      go_wp2_with fail
      go_ret
      exact ⟨by simp, below_drewN (Below.refl _ _) _⟩

set_option maxHeartbeats 2000000 in
set_option maxRecDepth 100000 in
theorem edits_calls {l : List Ed} {v u : Value} {w : World} {S S' : Nat → Prop} (h : Row w S 4 v l.length (flat l)) (h' : Row w S' 4 u l.length (flat l)) :
    Calls Try.prog 15 #[v, u] w fun e w' => e = .returned (.bool true) ∧ Below w.heap.size w w' := by
  obtain ⟨A, cap, rfl, hlen⟩ := h.form
  obtain ⟨A', cap', rfl, -⟩ := h'.form
  have H := Lib.hid h
  have H' := Lib.hid h'
  have hgd := ed_guard
  clear h h'
  go_enter Try.func15, Try.ntmps15
  go_wp2_with fail
  go_loopg [5] l.length (fun d i wr => ∃ (j q : Nat), d = l.length - j ∧ j ≤ l.length ∧ i = .int .i64 j ∧ wr = w.drewN q)
  case atStart => exact ⟨0, 0, by simp, by omega, rfl, rfl⟩
  case round =>
    obtain ⟨j, q, rfl, hj, rfl, rfl⟩ := hrel
    by_cases hlt : j < l.length
    · obtain ⟨b, o, rfl, -, hnc, a0, a1, a2, a3⟩ := row_at4 H.out hlt rfl
      obtain ⟨b', o', rfl, -, hnc', a0', a1', a2', a3'⟩ := row_at4 H'.out hlt rfl
      have heq := ed_eql l[j] l[j]
      rw [eqE_iff.2 rfl] at heq
      go_wp2_with fail
      go_quiet (fail)
      go_wp2_with fail
      go_roundg (l.length - (j + 1))
      case measure => omega
      case rel => exact ⟨j + 1, _, rfl, by omega, by go_num, rfl⟩
    · obtain rfl : j = l.length := by omega
      go_wp2_with fail
      go_ret
      exact ⟨by simp, below_drewN (Below.refl _ _) _⟩
end Go.Proofs.Ytnonbonegbdfpaa
