/- recastlaw1.lent: edits of one's own, and one behind them. -/
import Derived.Test.YtnonbonegbdfpaaSpMuch
import Derived.Test.YtnonbonegbdfpaaSpSorted
import Derived.Deep.DeepAppendWide
namespace Go.Proofs.Ytnonbonegbdfpaa
open Go Go.RowKit

theorem add_plain' {b o : Nat} (n : Nat) : Addr.add ⟨b, o, none⟩ n = ⟨b, o + n, none⟩ := by
  unfold Addr.add
  split
  · rename_i h; subst h; rfl
  · rfl
def zzE : Ed := ⟨⟨#[122, 122]⟩, 0, 0, ⟨#[]⟩⟩
/-- what lent hands back -/
structure LentRes (l : List Ed) (w w' : World) (g c : Nat) : Prop where
  own : w'.ownsRow w.heap.size 33 4 (.slice (some ⟨g, 0, none⟩) (l.length + 1) c) (l.length + 1) (flat (l ++ [zzE]))
  below : Below w.heap.size w w'
  cap : l.length + 1 ≤ c

set_option maxHeartbeats 2000000 in
set_option maxRecDepth 100000 in
theorem lent_calls {l : List Ed} {v : Value} {w : World} {S : Nat → Prop} (h : Row w S 4 v l.length (flat l)) (hS : Old S w) (hb : l.length * 48 ≤ 140737488355328) :
    Calls Try.prog 12 #[v] w fun e w' => ∃ g c, e = .returned (.slice (some ⟨g, 0, none⟩) l.length c) ∧ LentRes l w w' g c := by
  obtain ⟨i0, hi, iz0, iz1, iz2⟩ := info_parts info_edits
  obtain ⟨A, cap, rfl, hlen⟩ := h.form
  have H := Lib.hid h
  have HS := Lib.hid hS
  clear h hS
  go_enter Try.func12, Try.ntmps12
  go_wp2_with (at_builtin; refine wpList_append_row _ rfl _ _ 22 rfl w.heap.size 33 i0 _ 4 48 Try.underlying22 hi iz0 iz1 iz2 rfl (by omega) _ 0 [] rfl ?c1 S (.slice A l.length cap) l.length (flat l) rfl ?c2 (flat_one _) ?c3 ?c4 ?c5 ?_)
  case c1 => exact World.ownsRow_nil _ _ _ _
  case c2 => exact H.out
  case c3 => unfold maxLen; omega
  case c4 => omega
  case c5 => exact Nat.le_refl _
  intro v1 w1 hown hg hnil hat
  have hown' : w1.ownsRow w.heap.size 33 4 v1 l.length (flat l) := by simpa using hown
  obtain ⟨B, b, rfl⟩ := own_form hown'
  have HO := Lib.hid hown'
  have HB1 : Hid (Below w.heap.size w w1) := below_of_grown hg
  have hz1 := HB1.out.size
  clear hown hown' hg hnil hat
  go_wp2_with (at_builtin; refine wpList_append_own_wide _ rfl _ _ 22 rfl w.heap.size 33 i0 _ 4 48 Try.underlying22 hi iz0 iz1 iz2 rfl (by omega) _ l.length (flat l) rfl ?d1 ⟨w1.heap.size, 0, none⟩ 1 1 (flat [zzE]) rfl rfl ?d2 (flat_one _) ?d3 ?d4 ?d5 ?_)
  case d1 => exact own_below HO.out ((Below.refl _ _).alloc (Nat.le_refl _) _)
  case d2 =>
    intro j u hu
    rw [add_plain' j, Nat.zero_add]
    have hb := (Blk.new w1 33 #[.string ⟨#[122, 122]⟩, .int .i64 0, .int .i64 0, .string ⟨#[]⟩]).cell j
    rw [hb]
    simpa [flat, Ed.cs, zzE] using hu
  case d3 => unfold maxLen; omega
  case d4 => omega
  case d5 => simp; omega
  intro v2 w2 hown hg hnil
  have hown' : w2.ownsRow w.heap.size 33 4 v2 (l.length + 1) (flat (l ++ [zzE])) := by rw [flat_app]; exact hown
  obtain ⟨g, c, rfl, -⟩ := hown'.form (by omega)
  have hcap : l.length + 1 ≤ c := by
    rcases hown'.2 with ⟨h1, h2⟩ | ⟨g', c', cur, h1, h3, h4, h5, h6⟩
    · cases h1
    · cases h1; exact h5
  have HB2 : Hid (Below w.heap.size w w2) := (HB1.out.alloc hz1 _).grown hg (by simp; omega) (own_ge HO.out)
  have HO2 := Lib.hid hown'
  have hcI : (l.length : Int) ≤ (c : Int) := by omega
  clear hown hown' hg hnil HO HB1
  go_wp2_with fail
  go_ret
  exact ⟨g, c, rfl, HO2.out, HB2.out, hcap⟩
end Go.Proofs.Ytnonbonegbdfpaa
