/- The text of recastlaw1.SpansIndent: a line that begins with blanks and tabs. Plain Lean. -/
import Derived.Test.YtnonbonegbdfpaaDoorSpInd
namespace Go.Proofs.YtnonbonegbdfpaaDoor
open Go Go.RowKit

def bls (n : Nat) : List UInt8 := (List.range n).map fun i => if i % 2 = 0 then 32 else 9
theorem bls_len (n : Nat) : (bls n).length = n := by simp [bls]
theorem bls_succ (n : Nat) : bls (n + 1) = bls n ++ [if n % 2 = 0 then 32 else 9] := by simp [bls, List.range_succ]
theorem bls_at {n i : Nat} (h : i < n) : (bls n)[i]? = some (if i % 2 = 0 then 32 else 9) := by
  rw [List.getElem?_eq_getElem (by rw [bls_len]; exact h)]; simp [bls]
def blS (n : Nat) : ByteArray := ⟨(bls n).toArray⟩
theorem blS_size (n : Nat) : (blS n).size = n := by show (bls n).toArray.size = n; simp [bls_len]
def txt3 (a : ByteArray) (n : Nat) (b : ByteArray) : ByteArray := ((a ++ ⟨#[10]⟩) ++ blS n) ++ b
theorem txt3_list (a : ByteArray) (n : Nat) (b : ByteArray) : (txt3 a n b).data.toList = a.data.toList ++ (10 :: (bls n ++ b.data.toList)) := by
  simp [txt3, blS]
theorem txt3_size (a : ByteArray) (n : Nat) (b : ByteArray) : (txt3 a n b).size = a.size + 1 + n + b.size := by
  have h : (txt3 a n b).data.toList.length = (txt3 a n b).size := Array.length_toList
  have h1 : a.data.toList.length = a.size := Array.length_toList
  have h2 : b.data.toList.length = b.size := Array.length_toList
  rw [← h, txt3_list]
  simp only [List.length_append, List.length_cons, bls_len, h1, h2]
  omega
theorem txt3_nl (a : ByteArray) (n : Nat) (b : ByteArray) : (txt3 a n b).data.toList[a.size]? = some 10 := by
  have h1 : a.data.toList.length = a.size := Array.length_toList
  rw [txt3_list, List.getElem?_append_right (by omega), h1, Nat.sub_self]; rfl
theorem txt3_in (a : ByteArray) (n : Nat) (b : ByteArray) {j : Nat} (h : j < n) : (txt3 a n b).data.toList[a.size + 1 + j]? = some (if j % 2 = 0 then 32 else 9) := by
  have h1 : a.data.toList.length = a.size := Array.length_toList
  rw [txt3_list, List.getElem?_append_right (by omega), h1, show a.size + 1 + j - a.size = j + 1 from by omega, List.getElem?_cons_succ, List.getElem?_append_left (by rw [bls_len]; exact h), bls_at h]
theorem txt3_b (a : ByteArray) (n : Nat) (b : ByteArray) (j : Nat) : (txt3 a n b).data.toList[a.size + 1 + n + j]? = b.data.toList[j]? := by
  have h1 : a.data.toList.length = a.size := Array.length_toList
  rw [txt3_list, List.getElem?_append_right (by omega), h1, show a.size + 1 + n + j - a.size = n + j + 1 from by omega, List.getElem?_cons_succ, List.getElem?_append_right (by rw [bls_len]; omega), bls_len, Nat.add_sub_cancel_left]
theorem txt3_bol {a b : ByteArray} {n m : Nat} (hnl : ∀ j : Nat, b.data.toList[j]? ≠ some 10) : bolB (txt3 a n b) (a.size + 1 + m) (a.size + 1) := by
  refine ⟨by omega, fun j h1 h2 hc => ?_, .inr ⟨a.size, rfl, txt3_nl a n b⟩⟩
  obtain ⟨d, rfl⟩ : ∃ d, j = a.size + 1 + d := ⟨j - (a.size + 1), by omega⟩
  rcases Nat.lt_or_ge d n with h | h
  · rw [txt3_in a n b h] at hc
    split at hc <;> cases hc
  · obtain ⟨x, rfl⟩ : ∃ x, d = n + x := ⟨d - n, by omega⟩
    rw [← Nat.add_assoc, txt3_b] at hc
    exact hnl x hc
theorem txt3_blk {a b : ByteArray} {n : Nat} (hb : ¬ isBl (b.data.toList[0]?)) : blkB (txt3 a n b) (a.size + 1) (a.size + 1 + n) := by
  refine ⟨by omega, by rw [txt3_size]; omega, fun j h1 h2 => ?_, ?_⟩
  · obtain ⟨d, rfl⟩ : ∃ d, j = a.size + 1 + d := ⟨j - (a.size + 1), by omega⟩
    rw [txt3_in a n b (by omega)]
    unfold isBl
    split
    · exact .inl rfl
    · exact .inr rfl
  · have := txt3_b a n b 0
    rw [Nat.add_zero] at this
    rw [this]; exact hb
theorem txt3_ext (a : ByteArray) (n : Nat) (b : ByteArray) : (txt3 a n b).extract (a.size + 1) (a.size + 1 + n) = blS n := by
  apply ByteArray.ext
  apply Array.toList_inj.1
  have h1 : a.data.toList.length = a.size := Array.length_toList
  rw [ext_list, txt3_list, show a.size + 1 + n - (a.size + 1) = n from by omega, List.drop_append, List.drop_eq_nil_of_le (by omega), h1, List.nil_append, show a.size + 1 - a.size = 1 from by omega, List.drop_succ_cons, List.drop_zero, List.take_append_of_le_length (by rw [bls_len]; exact Nat.le_refl _), List.take_of_length_le (by rw [bls_len]; exact Nat.le_refl _)]
  rfl
def u8s (l : List UInt8) : List Value := l.map fun b => .int .u8 (b.toNat : Int)
theorem u8s_one (l : List UInt8) : ∀ u ∈ u8s l, u.oneCell' = true := by
  intro u h; obtain ⟨x, _, rfl⟩ := List.mem_map.1 h; rfl
end Go.Proofs.YtnonbonegbdfpaaDoor
