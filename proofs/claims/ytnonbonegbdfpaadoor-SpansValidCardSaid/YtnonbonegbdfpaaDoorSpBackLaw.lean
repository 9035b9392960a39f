/- A byte's line and column lead back to it. Plain Lean. -/
import Derived.Test.YtnonbonegbdfpaaDoorSpOffset
import Derived.Lib.IndexLaws
namespace Go.Proofs.YtnonbonegbdfpaaDoor
open Go Go.RowKit

theorem ext_list (s : ByteArray) (a b : Nat) : (s.extract a b).data.toList = (s.data.toList.drop a).take (b - a) := by
  rw [ByteArray.data_extract, Array.toList_extract]
theorem ext_tail (s : ByteArray) (o : Nat) : (s.extract o s.size).data.toList = s.data.toList.drop o := by
  rw [ext_list, List.take_of_length_le]
  rw [List.length_drop, Array.length_toList]
  exact Nat.le_refl _
theorem ext_head (s : ByteArray) (i : Nat) : (s.extract 0 i).data.toList = s.data.toList.take i := by
  rw [ext_list]; rfl
def cntB (s : ByteArray) (i : Nat) : Nat := (s.data.toList.take i).count 10
theorem cntB_succ {s : ByteArray} {i : Nat} (h : i < s.size) : cntB s (i + 1) = cntB s i + if s.data.toList[i]? = some 10 then 1 else 0 := by
  have hl : i < s.data.toList.length := by rw [Array.length_toList]; exact h
  unfold cntB
  rw [List.take_succ_eq_append_getElem hl, List.count_append, List.getElem?_eq_getElem hl]
  congr 1
  by_cases hc : s.data.toList[i] = 10
  · rw [hc]; rfl
  · rw [if_neg (by simpa using hc), List.count_singleton]
    simpa using hc
theorem line_at {s : ByteArray} {i : Nat} (h : i ≤ s.size) : ∃ o, offL s (cntB s i) = some o ∧ o ≤ i ∧ (∀ j, o ≤ j → j < i → s.data.toList[j]? ≠ some 10) ∧ (o = 0 ∨ ∃ p, o = p + 1 ∧ s.data.toList[p]? = some 10) := by
  induction i with
  | zero => exact ⟨0, by simp [cntB, offL], Nat.le_refl _, fun j h1 h2 => by omega, .inl rfl⟩
  | succ i ih =>
    obtain ⟨o, h1, h2, h3, h4⟩ := ih (by omega)
    rw [cntB_succ (by omega)]
    by_cases hc : s.data.toList[i]? = some 10
    · rw [if_pos hc]
      have hd : (s.data.toList.drop o)[i - o]? = some 10 := by rw [List.getElem?_drop, show o + (i - o) = i from by omega]; exact hc
      have hx : ixN s o = ((i - o : Nat) : Int) := by
        unfold ixN
        rw [ext_tail]
        have hge := Lib.indexByte_ge (s.data.toList.drop o) 10
        rcases Int.lt_or_le (Lib.indexByte (s.data.toList.drop o) 10) 0 with hn | hn
        · exact absurd hd (Lib.indexByte_none (show Lib.indexByte (s.data.toList.drop o) 10 = -1 by omega) (i - o))
        · obtain ⟨m, hm⟩ : ∃ m : Nat, Lib.indexByte (s.data.toList.drop o) 10 = m := ⟨_, (Int.toNat_of_nonneg hn).symm⟩
          obtain ⟨e1, e2⟩ := Lib.indexByte_some hm
          rw [hm]
          rcases Nat.lt_trichotomy m (i - o) with hlt | he | hgt
          · rw [List.getElem?_drop] at e1
            exact absurd e1 (h3 (o + m) (by omega) (by omega))
          · rw [he]
          · exact absurd hd (e2 (i - o) hgt)
      refine ⟨i + 1, ?_, Nat.le_refl _, fun j h5 h6 => by omega, .inr ⟨i, rfl, hc⟩⟩
      unfold offL
      rw [h1]
      simp only
      rw [if_neg (by omega), hx]
      congr 1
      omega
    · rw [if_neg hc]
      refine ⟨o, h1, by omega, fun j h5 h6 => ?_, h4⟩
      rcases Nat.lt_or_ge j i with h | h
      · exact h3 j h5 h
      · obtain rfl : j = i := by omega
        exact hc
theorem bang_get {t : ByteArray} {j : Nat} (h : j < t.size) : ((t.data[j]!).toNat : Int) = 10 ↔ t.data.toList[j]? = some 10 := by
  have hl : j < t.data.toList.length := by rw [Array.length_toList]; exact h
  rw [List.getElem?_eq_getElem hl, getElem!_pos t.data j h]
  simp only [Array.getElem_toList, Option.some.injEq]
  constructor
  · intro e; exact UInt8.toNat_inj.1 (by simp only [UInt8.reduceToNat]; omega)
  · intro e; rw [e]; rfl
theorem back_law {s : ByteArray} {i : Nat} (h : i ≤ s.size) : pln s i = 1 + cntB s i ∧ 1 ≤ pcol s i ∧ pcol s i ≤ i + 1 ∧ offP s (pln s i : Nat) (pcol s i) = some i := by
  have hi : inS s (i : Int) = i := by unfold inS; omega
  have hl : pln s i = 1 + cntB s i := by unfold pln; rw [hi, ext_head]; rfl
  obtain ⟨o, h1, h2, h3, h4⟩ := line_at h
  have hsz : (s.extract 0 i).size = i := by rw [ByteArray.size_extract]; omega
  have hget : ∀ j, j < i → (s.extract 0 i).data.toList[j]? = s.data.toList[j]? := fun j hj => by rw [ext_head, List.getElem?_take_of_lt hj]
  have hla : Lib.lastIndexByte (s.extract 0 i) 10 = (o : Int) - 1 := by
    rcases Lib.lastIndexByte_spec (s.extract 0 i) 10 with ⟨e, hn⟩ | ⟨m, hm, e, e1, e2⟩
    · rw [e]
      rcases h4 with rfl | ⟨p, rfl, hp⟩
      · rfl
      · exact absurd ((bang_get (by omega)).2 ((hget p (by omega)).trans hp)) (hn p (by omega))
    · rw [e]
      rw [hsz] at hm e2
      have e3 := (hget m hm).symm.trans ((bang_get (by omega)).1 e1)
      have hmo : m < o := by
        rcases Nat.lt_or_ge m o with hh | hh
        · exact hh
        · exact absurd e3 (h3 m hh hm)
      rcases h4 with rfl | ⟨p, rfl, hp⟩
      · omega
      · rcases Nat.lt_or_ge m p with hh | hh
        · exact absurd ((bang_get (by omega)).2 ((hget p (by omega)).trans hp)) (e2 p hh (by omega))
        · obtain rfl : m = p := by omega
          omega
  have hc : pcol s i = (i : Int) - o + 1 := by unfold pcol; rw [hi, hsz, hla]; omega
  refine ⟨hl, by omega, by omega, ?_⟩
  unfold offP
  rw [if_neg (by omega), show ((pln s i : Nat) : Int) - 1 = ((cntB s i : Nat) : Int) from by omega, Int.toNat_natCast, h1]
  simp only
  rw [if_neg, hc]
  · congr 1; omega
  · rw [hc]
    unfold endL
    split
    · omega
    · rename_i hn
      obtain ⟨m, hm⟩ : ∃ m : Nat, ixN s o = m := ⟨_, (Int.toNat_of_nonneg (by omega)).symm⟩
      have hm' := hm
      unfold ixN at hm'
      rw [ext_tail] at hm'
      have e1 := (Lib.indexByte_some hm').1
      rw [List.getElem?_drop] at e1
      rcases Nat.lt_or_ge (o + m) i with hh | hh
      · exact absurd e1 (h3 (o + m) (by omega) hh)
      · omega
end Go.Proofs.YtnonbonegbdfpaaDoor
