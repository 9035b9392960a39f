/- recastlaw9.sample, recastalike.Ints, recastlaw9.func1. -/
import Derived.Test.YtanhdklaponekaaMtV
import Derived.Test.YtanhdklaponekaaMtO
import Derived.Laws.BytesArg
namespace Go.Proofs.Ytanhdklaponekaa
open Go Go.RowKit

def bs (s : String) : ByteArray := ⟨s.toUTF8.data⟩
def sM : ByteArray := ⟨#[77]⟩
def sU : ByteArray := ⟨#[85]⟩
def sy : ByteArray := ⟨#[121]⟩
def mI : ByteArray := ⟨#[109, 97, 105, 110, 46, 73]⟩
def mT : ByteArray := ⟨#[109, 97, 105, 110, 46, 84]⟩
def mU : ByteArray := ⟨#[109, 97, 105, 110, 46, 85]⟩
def k0T (k : Int) : T := .mk k ⟨#[]⟩ 0 false [] [] []
def samL : List Nd := [⟨mI, .mk 15 ⟨#[]⟩ 0 false [sM] [] [k0T 13], []⟩, ⟨mT, .mk 14 ⟨#[]⟩ 0 false [sU] [true] [nameT mU], []⟩, ⟨mU, .mk 14 ⟨#[]⟩ 0 false [sy] [false] [k0T 1], [⟨sM, true, k0T 13⟩]⟩]

theorem Blk.new' {w : World} {t : TypeId} {cs : Array Value} {n : Nat} (h : w.heap.size = n) : Blk (w.alloc (.cells cs t)) n t cs := by
  subst h; exact Blk.new _ _ _
theorem Blk.row {w : World} {S : Nat → Prop} {g size n : Nat} {t : TypeId} {cs : Array Value} (h : Blk w g t cs) (hs : cs.size = n * size) (hn : n ≤ maxLen) (hS : S g) : Row w S size (.slice (some ⟨g, 0, none⟩) n n) n cs.toList := by
  refine ⟨by simpa using hs, _, _, rfl, Nat.le_refl _, hn, fun e => by simp at e, fun _ => ⟨g, 0, rfl, hS, fun j u hj => ?_⟩⟩
  rw [Nat.zero_add, h.cell j]
  simpa using hj
theorem k0_cells (k : Int) (w : World) (S : Nat → Prop) : TyR w S (k0T k) [.int .i64 k, .string ⟨#[]⟩, .int .i64 0, .bool false, .slice none 0 0, .slice none 0 0, .slice none 0 0] := by
  simp only [k0T, TyR]
  exact ⟨_, _, _, [], rfl, Row.nil_, Row.nil_, Row.nil_, by simp [TysR]⟩
/-- a struct (or the like) of one field -/
theorem st_cells {w : World} {S : Nat → Prop} {k : Int} {nm s : ByteArray} {ms : List Bool} {u : T} {cs : List Value} {v1 v2 v3 : Value} (h1 : Row w S 1 v1 1 [.string s]) (h2 : Row w S 1 v2 ms.length (ms.map .bool)) (h3 : Row w S 7 v3 1 cs) (h4 : TyR w S u cs) :
    TyR w S (.mk k nm 0 false [s] ms [u]) [.int .i64 k, .string nm, .int .i64 0, .bool false, v1, v2, v3] := by
  simp only [TyR]
  exact ⟨v1, v2, v3, cs, rfl, h1, h2, h3, by simp only [TysR]; exact ⟨cs, [], by simp, h4, rfl⟩⟩
set_option maxHeartbeats 1000000 in
theorem sample_row {w : World} {N : Nat} {S : Nat → Prop} (h1 : Blk w (N + 1) 9 #[.string ⟨#[77]⟩]) (h2 : Blk w (N + 1 + 1) 26 #[.int .i64 13, .string ⟨#[]⟩, .int .i64 0, .bool false, .slice none 0 0, .slice none 0 0, .slice none 0 0]) (h3 : Blk w (N + 1 + 1 + 1) 9 #[.string ⟨#[85]⟩]) (h4 : Blk w (N + 1 + 1 + 1 + 1) 4 #[.bool true]) (h5 : Blk w (N + 1 + 1 + 1 + 1 + 1) 26 #[.int .i64 8, .string ⟨#[109, 97, 105, 110, 46, 85]⟩, .int .i64 0, .bool false, .slice none 0 0, .slice none 0 0, .slice none 0 0]) (h6 : Blk w (N + 1 + 1 + 1 + 1 + 1 + 1) 9 #[.string ⟨#[121]⟩]) (h7 : Blk w (N + 1 + 1 + 1 + 1 + 1 + 1 + 1) 4 #[.bool false]) (h8 : Blk w (N + 1 + 1 + 1 + 1 + 1 + 1 + 1 + 1) 26 #[.int .i64 1, .string ⟨#[]⟩, .int .i64 0, .bool false, .slice none 0 0, .slice none 0 0, .slice none 0 0]) (h9 : Blk w (N + 1 + 1 + 1 + 1 + 1 + 1 + 1 + 1 + 1) 89 #[.string ⟨#[77]⟩, .bool true, .int .i64 13, .string ⟨#[]⟩, .int .i64 0, .bool false, .slice none 0 0, .slice none 0 0, .slice none 0 0]) (h10 : Blk w (N + 1 + 1 + 1 + 1 + 1 + 1 + 1 + 1 + 1 + 1) 43 #[.string ⟨#[109, 97, 105, 110, 46, 73]⟩, .int .i64 15, .string ⟨#[]⟩, .int .i64 0, .bool false, .slice (some ⟨N + 1, 0, none⟩) 1 1, .slice none 0 0, .slice (some ⟨N + 1 + 1, 0, none⟩) 1 1, .slice none 0 0, .string ⟨#[109, 97, 105, 110, 46, 84]⟩, .int .i64 14, .string ⟨#[]⟩, .int .i64 0, .bool false, .slice (some ⟨N + 1 + 1 + 1, 0, none⟩) 1 1, .slice (some ⟨N + 1 + 1 + 1 + 1, 0, none⟩) 1 1, .slice (some ⟨N + 1 + 1 + 1 + 1 + 1, 0, none⟩) 1 1, .slice none 0 0, .string ⟨#[109, 97, 105, 110, 46, 85]⟩, .int .i64 14, .string ⟨#[]⟩, .int .i64 0, .bool false, .slice (some ⟨N + 1 + 1 + 1 + 1 + 1 + 1, 0, none⟩) 1 1, .slice (some ⟨N + 1 + 1 + 1 + 1 + 1 + 1 + 1, 0, none⟩) 1 1, .slice (some ⟨N + 1 + 1 + 1 + 1 + 1 + 1 + 1 + 1, 0, none⟩) 1 1, .slice (some ⟨N + 1 + 1 + 1 + 1 + 1 + 1 + 1 + 1 + 1, 0, none⟩) 1 1]) (hS : ∀ b, N ≤ b → b ≤ N + 10 → S b) :
    RowNd w S (.slice (some ⟨N + 1 + 1 + 1 + 1 + 1 + 1 + 1 + 1 + 1 + 1, 0, none⟩) 3 3) samL := by
  refine ⟨[.string ⟨#[109, 97, 105, 110, 46, 73]⟩, .int .i64 15, .string ⟨#[]⟩, .int .i64 0, .bool false, .slice (some ⟨N + 1, 0, none⟩) 1 1, .slice none 0 0, .slice (some ⟨N + 1 + 1, 0, none⟩) 1 1, .slice none 0 0, .string ⟨#[109, 97, 105, 110, 46, 84]⟩, .int .i64 14, .string ⟨#[]⟩, .int .i64 0, .bool false, .slice (some ⟨N + 1 + 1 + 1, 0, none⟩) 1 1, .slice (some ⟨N + 1 + 1 + 1 + 1, 0, none⟩) 1 1, .slice (some ⟨N + 1 + 1 + 1 + 1 + 1, 0, none⟩) 1 1, .slice none 0 0, .string ⟨#[109, 97, 105, 110, 46, 85]⟩, .int .i64 14, .string ⟨#[]⟩, .int .i64 0, .bool false, .slice (some ⟨N + 1 + 1 + 1 + 1 + 1 + 1, 0, none⟩) 1 1, .slice (some ⟨N + 1 + 1 + 1 + 1 + 1 + 1 + 1, 0, none⟩) 1 1, .slice (some ⟨N + 1 + 1 + 1 + 1 + 1 + 1 + 1 + 1, 0, none⟩) 1 1, .slice (some ⟨N + 1 + 1 + 1 + 1 + 1 + 1 + 1 + 1 + 1, 0, none⟩) 1 1], h10.row (n := 3) rfl (by unfold maxLen; omega) (hS _ (by omega) (by omega)), ?_⟩
  have one : ∀ {g : Nat} {t : TypeId} {c : Value}, Blk w g t #[c] → N ≤ g → g ≤ N + 10 → Row w S 1 (.slice (some ⟨g, 0, none⟩) 1 1) 1 [c] := fun {g t c} h h1 h2 => h.row (n := 1) rfl (by unfold maxLen; omega) (hS _ h1 h2)
  refine ⟨[.string ⟨#[109, 97, 105, 110, 46, 73]⟩, .int .i64 15, .string ⟨#[]⟩, .int .i64 0, .bool false, .slice (some ⟨N + 1, 0, none⟩) 1 1, .slice none 0 0, .slice (some ⟨N + 1 + 1, 0, none⟩) 1 1, .slice none 0 0], [.string ⟨#[109, 97, 105, 110, 46, 84]⟩, .int .i64 14, .string ⟨#[]⟩, .int .i64 0, .bool false, .slice (some ⟨N + 1 + 1 + 1, 0, none⟩) 1 1, .slice (some ⟨N + 1 + 1 + 1 + 1, 0, none⟩) 1 1, .slice (some ⟨N + 1 + 1 + 1 + 1 + 1, 0, none⟩) 1 1, .slice none 0 0, .string ⟨#[109, 97, 105, 110, 46, 85]⟩, .int .i64 14, .string ⟨#[]⟩, .int .i64 0, .bool false, .slice (some ⟨N + 1 + 1 + 1 + 1 + 1 + 1, 0, none⟩) 1 1, .slice (some ⟨N + 1 + 1 + 1 + 1 + 1 + 1 + 1, 0, none⟩) 1 1, .slice (some ⟨N + 1 + 1 + 1 + 1 + 1 + 1 + 1 + 1, 0, none⟩) 1 1, .slice (some ⟨N + 1 + 1 + 1 + 1 + 1 + 1 + 1 + 1 + 1, 0, none⟩) 1 1], rfl, ⟨[.int .i64 15, .string ⟨#[]⟩, .int .i64 0, .bool false, .slice (some ⟨N + 1, 0, none⟩) 1 1, .slice none 0 0, .slice (some ⟨N + 1 + 1, 0, none⟩) 1 1], .slice none 0 0, rfl, ?_, [], Row.nil_, rfl⟩, [.string ⟨#[109, 97, 105, 110, 46, 84]⟩, .int .i64 14, .string ⟨#[]⟩, .int .i64 0, .bool false, .slice (some ⟨N + 1 + 1 + 1, 0, none⟩) 1 1, .slice (some ⟨N + 1 + 1 + 1 + 1, 0, none⟩) 1 1, .slice (some ⟨N + 1 + 1 + 1 + 1 + 1, 0, none⟩) 1 1, .slice none 0 0], [.string ⟨#[109, 97, 105, 110, 46, 85]⟩, .int .i64 14, .string ⟨#[]⟩, .int .i64 0, .bool false, .slice (some ⟨N + 1 + 1 + 1 + 1 + 1 + 1, 0, none⟩) 1 1, .slice (some ⟨N + 1 + 1 + 1 + 1 + 1 + 1 + 1, 0, none⟩) 1 1, .slice (some ⟨N + 1 + 1 + 1 + 1 + 1 + 1 + 1 + 1, 0, none⟩) 1 1, .slice (some ⟨N + 1 + 1 + 1 + 1 + 1 + 1 + 1 + 1 + 1, 0, none⟩) 1 1], rfl, ⟨[.int .i64 14, .string ⟨#[]⟩, .int .i64 0, .bool false, .slice (some ⟨N + 1 + 1 + 1, 0, none⟩) 1 1, .slice (some ⟨N + 1 + 1 + 1 + 1, 0, none⟩) 1 1, .slice (some ⟨N + 1 + 1 + 1 + 1 + 1, 0, none⟩) 1 1], .slice none 0 0, rfl, ?_, [], Row.nil_, rfl⟩, [.string ⟨#[109, 97, 105, 110, 46, 85]⟩, .int .i64 14, .string ⟨#[]⟩, .int .i64 0, .bool false, .slice (some ⟨N + 1 + 1 + 1 + 1 + 1 + 1, 0, none⟩) 1 1, .slice (some ⟨N + 1 + 1 + 1 + 1 + 1 + 1 + 1, 0, none⟩) 1 1, .slice (some ⟨N + 1 + 1 + 1 + 1 + 1 + 1 + 1 + 1, 0, none⟩) 1 1, .slice (some ⟨N + 1 + 1 + 1 + 1 + 1 + 1 + 1 + 1 + 1, 0, none⟩) 1 1], [], rfl, ⟨[.int .i64 14, .string ⟨#[]⟩, .int .i64 0, .bool false, .slice (some ⟨N + 1 + 1 + 1 + 1 + 1 + 1, 0, none⟩) 1 1, .slice (some ⟨N + 1 + 1 + 1 + 1 + 1 + 1 + 1, 0, none⟩) 1 1, .slice (some ⟨N + 1 + 1 + 1 + 1 + 1 + 1 + 1 + 1, 0, none⟩) 1 1], .slice (some ⟨N + 1 + 1 + 1 + 1 + 1 + 1 + 1 + 1 + 1, 0, none⟩) 1 1, rfl, ?_, _, h9.row (n := 1) rfl (by unfold maxLen; omega) (hS _ (by omega) (by omega)), AllR.one ⟨[.int .i64 13, .string ⟨#[]⟩, .int .i64 0, .bool false, .slice none 0 0, .slice none 0 0, .slice none 0 0], rfl, k0_cells 13 _ _⟩⟩, rfl⟩
  · exact st_cells (one h1 (by omega) (by omega)) Row.nil_ (h2.row (n := 1) rfl (by unfold maxLen; omega) (hS _ (by omega) (by omega))) (k0_cells 13 _ _)
  · exact st_cells (one h3 (by omega) (by omega)) (one h4 (by omega) (by omega)) (h5.row (n := 1) rfl (by unfold maxLen; omega) (hS _ (by omega) (by omega))) (nameT_cells _ _ _)
  · exact st_cells (one h6 (by omega) (by omega)) (one h7 (by omega) (by omega)) (h8.row (n := 1) rfl (by unfold maxLen; omega) (hS _ (by omega) (by omega))) (k0_cells 1 _ _)

set_option maxHeartbeats 4000000 in
set_option maxRecDepth 100000 in
theorem sample_calls {w : World} : Calls Try.prog 61 #[] w fun e w' => ∃ v, e = .returned v ∧ RowNd w' (New w w') v samL ∧ Below w.heap.size w w' := by
  go_enter Try.func61, Try.ntmps61
  go_wp2_with fail
  go_ret
  refine ⟨_, rfl, sample_row (N := w.heap.size) ?_ ?_ ?_ ?_ ?_ ?_ ?_ ?_ ?_ ?_ ?_, ?_⟩
  · exact (((((((((Blk.new' (by simp)).alloc _).alloc _).alloc _).alloc _).alloc _).alloc _).alloc _).alloc _).alloc _
  · exact ((((((((Blk.new' (by simp)).alloc _).alloc _).alloc _).alloc _).alloc _).alloc _).alloc _).alloc _
  · exact (((((((Blk.new' (by simp)).alloc _).alloc _).alloc _).alloc _).alloc _).alloc _).alloc _
  · exact ((((((Blk.new' (by simp)).alloc _).alloc _).alloc _).alloc _).alloc _).alloc _
  · exact (((((Blk.new' (by simp)).alloc _).alloc _).alloc _).alloc _).alloc _
  · exact ((((Blk.new' (by simp)).alloc _).alloc _).alloc _).alloc _
  · exact (((Blk.new' (by simp)).alloc _).alloc _).alloc _
  · exact ((Blk.new' (by simp)).alloc _).alloc _
  · exact (Blk.new' (by simp)).alloc _
  · exact Blk.new' (by simp)
  · intro b h1 h2
    exact ⟨h1, by simp; omega⟩
  · exact ((((((((((below_al _ _).alloc (by simp; try omega) _).alloc (by simp; try omega) _).alloc (by simp; try omega) _).alloc (by simp; try omega) _).alloc (by simp; try omega) _).alloc (by simp; try omega) _).alloc (by simp; try omega) _).alloc (by simp; try omega) _).alloc (by simp; try omega) _).alloc (by simp; try omega) _

def letter (i : Nat) : ByteArray := ⟨#[UInt8.ofNat (97 + i)]⟩
theorem conv_letter (w : World) (i : Nat) : (convert 66 9 (.slice (some ⟨w.heap.size, 0, none⟩) 1 1)).run Try.prog (w.alloc (.cells #[.int .u8 (97 + (i : Int))] 5)) = .ok (.string (letter i)) (w.alloc (.cells #[.int .u8 (97 + (i : Int))] 5)) := by
  refine (run_convert_bytes_arg (w.alloc (.cells #[.int .u8 (97 + (i : Int))] 5)) 66 5 Try.underlying66 Try.underlying5 w.heap.size 0 1 1 [97 + (i : Int)] rfl (fun j hj => ?_) 9 Try.underlying9).trans ?_
  · obtain rfl : j = 0 := by omega
    exact (Blk.new w 5 #[.int .u8 (97 + (i : Int))]).cell 0
  · congr 2
set_option maxRecDepth 100000 in
theorem func1_calls {w : World} {i : Nat} (hi : i ≤ 20) : Calls Try.prog 30 #[.int .i64 i] w fun e w' => e = .returned (.string (letter i)) ∧ Below w.heap.size w w' := by
  have hcv := conv_letter w i
  go_enter Try.func30, Try.ntmps30
  go_wp2_with fail
  go_ret
  exact ⟨rfl, below_al _ _⟩
end Go.Proofs.Ytanhdklaponekaa
