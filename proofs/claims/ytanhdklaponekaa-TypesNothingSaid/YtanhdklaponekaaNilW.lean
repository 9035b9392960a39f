/- types.World that is none, and the document's World without declared types: Named, Under, Nilable. -/
import Derived.Test.YtanhdklaponekaaMakeO
import Derived.Test.YtanhdklaponekaaIdent
namespace Go.Proofs.Ytanhdklaponekaa
open Go Go.RowKit

/-- the result is the type that was handed in, cell by cell -/
def SameT (t : T) (A1 : Option Addr) (c1 : Nat) (A2 : Option Addr) (c2 : Nat) (A3 : Option Addr) (c3 : Nat) (w : World) (e : Ending) (w' : World) : Prop :=
  e = .returned (.agg #[.int .i64 t.kd, .string t.nm, .int .i64 t.n, .bool t.fl, .slice A1 t.ns.length c1, .slice A2 t.ms.length c2, .slice A3 t.ks.length c3]) ∧ Below w.heap.size w w'

theorem named_nil {nm : ByteArray} {w : World} : Calls Try.prog 23 #[.pointer none, .string nm] w fun e w' =>
    e = .returned (.tuple #[.agg #[.string ⟨#[]⟩, .int .i64 0, .string ⟨#[]⟩, .int .i64 0, .bool false, .slice none 0 0, .slice none 0 0, .slice none 0 0, .slice none 0 0], .bool false]) ∧ Below w.heap.size w w' := by
  go_enter Try.func23, Try.ntmps23
  go_wp2_with fail
  refine bodyPost_ret (v := .tuple #[.agg #[.string ⟨#[]⟩, .int .i64 0, .string ⟨#[]⟩, .int .i64 0, .bool false, .slice none 0 0, .slice none 0 0, .slice none 0 0, .slice none 0 0], .bool false]) (by simp [results, Try.results23, go_sem]) rfl ⟨rfl, ?_⟩
  first | exact (Below.refl _ _).alloc (Nat.le_refl _) _ | (repeat (refine Below.setCell ?_ (by simp) _); exact (Below.refl _ _).alloc (Nat.le_refl _) _)

set_option maxHeartbeats 1000000 in
theorem under_nil {t : T} {A1 A2 A3 : Option Addr} {c1 c2 c3 : Nat} {w : World} :
    Calls Try.prog 55 #[.pointer none, .agg #[.int .i64 t.kd, .string t.nm, .int .i64 t.n, .bool t.fl, .slice A1 t.ns.length c1, .slice A2 t.ms.length c2, .slice A3 t.ks.length c3]] w (SameT t A1 c1 A2 c2 A3 c3 w) := by
  go_enter Try.func55, Try.ntmps55
  go_wp2_with fail
  go_loopg [5, 6] 0 (fun d _ _ wr => d = 0 ∧ wr = (w.alloc (.cells #[.int .i64 t.kd, .string t.nm, .int .i64 t.n, .bool t.fl, .slice A1 t.ns.length c1, .slice A2 t.ms.length c2, .slice A3 t.ks.length c3] 26)).alloc (.cells #[.int .i64 0, .string ⟨#[]⟩, .int .i64 0, .bool false, .slice none 0 0, .slice none 0 0, .slice none 0 0] 26))
  case atStart => exact ⟨rfl, rfl⟩
  case round =>
    obtain ⟨rfl, rfl⟩ := hrel
    by_cases h8 : t.kd = 8
    · have hb8 : (t.kd == 8) = true := by simpa using h8
      clear h8
      go_wp2_with fail
      refine bodyPost_ret (v := .agg #[.int .i64 t.kd, .string t.nm, .int .i64 t.n, .bool t.fl, .slice A1 t.ns.length c1, .slice A2 t.ms.length c2, .slice A3 t.ks.length c3]) (by simp [results, Try.results55, go_sem]) rfl ⟨rfl, ?_⟩
      repeat (refine Below.setCell ?_ (by simp) _)
      exact ((Below.refl _ _).alloc (Nat.le_refl _) _).alloc (by simp) _
    · have hb8 : (t.kd == 8) = false := by simpa using h8
      clear h8
      go_wp2_with fail
      refine bodyPost_ret (v := .agg #[.int .i64 t.kd, .string t.nm, .int .i64 t.n, .bool t.fl, .slice A1 t.ns.length c1, .slice A2 t.ms.length c2, .slice A3 t.ks.length c3]) (by simp [results, Try.results55, go_sem]) rfl ⟨rfl, ?_⟩
      repeat (refine Below.setCell ?_ (by simp) _)
      exact ((Below.refl _ _).alloc (Nat.le_refl _) _).alloc (by simp) _

/-- the document's World without declared types -/
def NoW (w : World) (g : Nat) : Prop := w.cell? ⟨g, 0, none⟩ = some (.slice none 0 0)
theorem find_none {nm : ByteArray} {g : Nat} {w : World} (h : NoW w g) : Calls Try.prog 73 #[.pointer (some ⟨g, 0, none⟩), .string nm] w fun e w' => e = .returned (.int .i64 (-1)) ∧ w' = w := by
  unfold NoW at h
  go_enter Try.func73, Try.ntmps73
  go_wp2_with fail
  go_loopg [5] 0 (fun d i wr => d = 0 ∧ i = .int .i64 0 ∧ wr = w)
  case atStart => exact ⟨rfl, rfl, rfl⟩
  case round =>
    obtain ⟨rfl, rfl, rfl⟩ := hrel
    go_wp2_with fail
    go_ret
    exact ⟨rfl, rfl⟩

set_option maxHeartbeats 1000000 in
theorem runder_none {t : T} {A1 A2 A3 : Option Addr} {c1 c2 c3 : Nat} {g : Nat} {w : World} (hg : g < w.heap.size) (h : NoW w g) :
    Calls Try.prog 60 #[.pointer (some ⟨g, 0, none⟩), .agg #[.int .i64 t.kd, .string t.nm, .int .i64 t.n, .bool t.fl, .slice A1 t.ns.length c1, .slice A2 t.ms.length c2, .slice A3 t.ks.length c3]] w (SameT t A1 c1 A2 c2 A3 c3 w) := by
  have H := Lib.hid h
  clear h
  go_enter Try.func60, Try.ntmps60
  go_wp2_with fail
  go_loopg [5] 0 (fun d _ wr => d = 0 ∧ wr = (w.alloc (.cells #[.int .i64 t.kd, .string t.nm, .int .i64 t.n, .bool t.fl, .slice A1 t.ns.length c1, .slice A2 t.ms.length c2, .slice A3 t.ks.length c3] 26)).alloc (.cells #[.int .i64 0, .string ⟨#[]⟩, .int .i64 0, .bool false, .slice none 0 0, .slice none 0 0, .slice none 0 0] 26))
  case atStart => exact ⟨rfl, rfl⟩
  case round =>
    obtain ⟨rfl, rfl⟩ := hrel
    by_cases h8 : t.kd = 8
    · have hb8 : (t.kd == 8) = true := by simpa using h8
      clear h8
      go_wp2_with fail
      refine (find_none (g := g) ?_).mono ?_
      · have h0 := H.out
        unfold NoW at h0 ⊢
        exact (cell_below (((Below.refl w.heap.size w).alloc (Nat.le_refl _) _).alloc (by simp) _) hg).trans h0
      rintro e w1 ⟨rfl, rfl⟩
      go_wp2_with fail
      refine bodyPost_ret (v := .agg #[.int .i64 t.kd, .string t.nm, .int .i64 t.n, .bool t.fl, .slice A1 t.ns.length c1, .slice A2 t.ms.length c2, .slice A3 t.ks.length c3]) (by simp [results, Try.results60, go_sem]) rfl ⟨rfl, ?_⟩
      repeat (refine Below.setCell ?_ (by simp) _)
      exact ((Below.refl _ _).alloc (Nat.le_refl _) _).alloc (by simp) _
    · have hb8 : (t.kd == 8) = false := by simpa using h8
      clear h8
      go_wp2_with fail
      refine bodyPost_ret (v := .agg #[.int .i64 t.kd, .string t.nm, .int .i64 t.n, .bool t.fl, .slice A1 t.ns.length c1, .slice A2 t.ms.length c2, .slice A3 t.ks.length c3]) (by simp [results, Try.results60, go_sem]) rfl ⟨rfl, ?_⟩
      repeat (refine Below.setCell ?_ (by simp) _)
      exact ((Below.refl _ _).alloc (Nat.le_refl _) _).alloc (by simp) _
end Go.Proofs.Ytanhdklaponekaa
