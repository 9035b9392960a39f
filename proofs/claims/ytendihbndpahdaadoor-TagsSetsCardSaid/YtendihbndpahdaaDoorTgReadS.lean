/- A []string as an argument. -/
import Derived.Test.YtendihbndpahdaaDoorSpRead
import Derived.Test.YtendihbndpahdaaDoorTgW
import Derived.ChangeMaps5
namespace Go.Proofs.YtendihbndpahdaaDoor
open Go Go.RowKit Go.ChangeShapes Go.WideShapes Go.ChangeAt Go.Sort Go.Lib

theorem cells_str : Tryd.prog.cellsOf 9 = 1 := by kernel_rfl
theorem bytes_str : Tryd.prog.bytesOf 9 = 16 := by kernel_rfl
section
variable {H : Type} {enc : TypeId × Value → H} {w : World} {held : Bool} {sp : Nat → Bool}
theorem each_at {P : Program} {ts : List TypeId} {ds : List (DataW H)} (h : ∀ n ∈ DataW.weightsEach P ts ds, n ≤ reachBytes) {j : Nat} {t : TypeId} {d : DataW H} (h1 : ts[j]? = some t) (h2 : ds[j]? = some d) :
    ∀ n ∈ d.weights P t, n ≤ reachBytes := fun n hn => h n (DataW.weights_mem_each h1 h2 n hn)
theorem read_string1 {t : TypeId} {fuel : Nat} {cs : List Value} {x : DataW H × List MemPlace} (ht : Tryd.prog.underlying t = some .string) (h : DataW.trod enc Tryd.prog w 0 sp held fuel t cs = some x) : ∃ s : ByteArray, cs = [.string s] := by
  obtain ⟨s, rfl, rfl, -⟩ := DataW.trod_string ht h
  exact ⟨s, rfl⟩
theorem allR_str : ∀ {ys : List ByteArray} {xs : List Value}, AllR (fun (s : ByteArray) cs => cs = [.string s]) ys xs → xs = ys.map .string
  | [], xs, h => h
  | y :: ys, xs, h => by
    obtain ⟨c1, c2, rfl, rfl, h2⟩ := h
    rw [allR_str h2]; rfl
/-- a []string argument -/
theorem read_strs {v : Value} {d : DataW H} {ps : List MemPlace} {fuel : Nat} (h : DataW.trod enc Tryd.prog w 0 sp held fuel 22 [v] = some (d, ps)) (hw : ∀ n ∈ d.weights Tryd.prog 22, n ≤ reachBytes) :
    ∃ l : List (List UInt8), Row w (fun b => b < w.heap.size) 1 v l.length (l.map encStr) ∧ l.length * 16 ≤ 140737488355328 := by
  obtain ⟨v4, ns, x4, e4, R4, A4, B4⟩ := read_slice (Q := fun (s : ByteArray) cs => cs = [.string s]) Tryd.underlying22 cells_str (by omega) h hw fun _ _ _ _ g gw => read_string1 Tryd.underlying9 g
  rw [allR_str A4] at R4
  rw [bytes_str] at B4
  unfold reachBytes at B4
  cases e4
  refine ⟨bys ns, ?_, by simp [bys]; omega⟩
  rw [bys_enc]
  have : (bys ns).length = ns.length := by simp [bys]
  rw [this]
  exact R4
end
end Go.Proofs.YtendihbndpahdaaDoor
