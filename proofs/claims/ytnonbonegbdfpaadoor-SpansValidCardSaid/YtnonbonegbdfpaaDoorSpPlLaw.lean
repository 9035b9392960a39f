/- Lines and columns, and what a line begins with. Plain Lean. -/
import Derived.Test.YtnonbonegbdfpaaDoorSpBackLaw
import Derived.Lib.SlTrimSet
namespace Go.Proofs.YtnonbonegbdfpaaDoor
open Go Go.RowKit

/-- o is where the line of byte i begins -/
def bolB (s : ByteArray) (i o : Nat) : Prop := o ≤ i ∧ (∀ j, o ≤ j → j < i → s.data.toList[j]? ≠ some 10) ∧ (o = 0 ∨ ∃ p, o = p + 1 ∧ s.data.toList[p]? = some 10)
theorem bol_uniq {s : ByteArray} {i o o' : Nat} (h : bolB s i o) (h' : bolB s i o') : o = o' := by
  rcases Nat.lt_trichotomy o o' with g | g | g
  · rcases h'.2.2 with e | ⟨p, e, hp⟩
    · omega
    · exact absurd hp (h.2.1 p (by omega) (by have := h'.1; omega))
  · exact g
  · rcases h.2.2 with e | ⟨p, e, hp⟩
    · omega
    · exact absurd hp (h'.2.1 p (by omega) (by have := h.1; omega))
theorem bol_zero (s : ByteArray) : bolB s 0 0 := ⟨Nat.le_refl _, fun j h1 h2 => by omega, .inl rfl⟩
theorem bol_nl {s : ByteArray} {i : Nat} (h : s.data.toList[i]? = some 10) : bolB s (i + 1) (i + 1) := ⟨Nat.le_refl _, fun j h1 h2 => by omega, .inr ⟨i, rfl, h⟩⟩
theorem bol_next {s : ByteArray} {i o : Nat} (h : bolB s i o) (hc : s.data.toList[i]? ≠ some 10) : bolB s (i + 1) o :=
  ⟨by have := h.1; omega, fun j h1 h2 => by
    rcases Nat.lt_or_ge j i with g | g
    · exact h.2.1 j h1 g
    · obtain rfl : j = i := by omega
      exact hc, h.2.2⟩
theorem bol_ex {s : ByteArray} {i : Nat} (h : i ≤ s.size) : ∃ o, bolB s i o := by
  obtain ⟨o, -, h2, h3, h4⟩ := line_at h
  exact ⟨o, h2, h3, h4⟩
theorem bol_off {s : ByteArray} {i o : Nat} (h : i ≤ s.size) (hb : bolB s i o) : offL s (cntB s i) = some o := by
  obtain ⟨o', h1, h2, h3, h4⟩ := line_at h
  rw [h1, bol_uniq hb ⟨h2, h3, h4⟩]
theorem bol_last {s : ByteArray} {i o : Nat} (h : i ≤ s.size) (hb : bolB s i o) : Lib.lastIndexByte (s.extract 0 i) 10 = (o : Int) - 1 := by
  obtain ⟨h2, h3, h4⟩ := hb
  have hsz : (s.extract 0 i).size = i := by rw [ByteArray.size_extract]; omega
  have hget : ∀ j, j < i → (s.extract 0 i).data.toList[j]? = s.data.toList[j]? := fun j hj => by rw [ext_head, List.getElem?_take_of_lt hj]
  rcases Lib.lastIndexByte_spec (s.extract 0 i) 10 with ⟨e, hn⟩ | ⟨m, hm, e, e1, e2⟩
  · rw [e]
    rcases h4 with rfl | ⟨p, rfl, hp⟩
    · rfl
    · exact absurd ((bang_get (by omega)).2 ((hget p (by omega)).trans hp)) (hn p (by omega))
  · rw [e]
    rw [hsz] at hm e2
    have e3 := (hget m hm).symm.trans ((bang_get (by omega)).1 e1)
    have hmo : m < o := by
      rcases Nat.lt_or_ge m o with hh | hh
      · exact hh
      · exact absurd e3 (h3 m hh hm)
    rcases h4 with rfl | ⟨p, rfl, hp⟩
    · omega
    · rcases Nat.lt_or_ge m p with hh | hh
      · exact absurd ((bang_get (by omega)).2 ((hget p (by omega)).trans hp)) (e2 p hh (by omega))
      · obtain rfl : m = p := by omega
        omega
theorem inS_in (s : ByteArray) {i : Nat} (h : i ≤ s.size) : inS s (i : Int) = i := by unfold inS; omega
theorem pln_at {s : ByteArray} {i : Nat} (h : i ≤ s.size) : pln s (i : Int) = 1 + cntB s i := (back_law h).1
theorem pcol_at {s : ByteArray} {i o : Nat} (h : i ≤ s.size) (hb : bolB s i o) : pcol s (i : Int) = (i : Int) - o + 1 := by
  have hsz : (s.extract 0 i).size = i := by rw [ByteArray.size_extract]; omega
  unfold pcol
  rw [inS_in s h, hsz, bol_last h hb]; omega
theorem pln_in (s : ByteArray) (i : Int) : pln s i = pln s ((inS s i : Nat) : Int) := by
  unfold pln
  rw [inS_in s (inS_le s i)]
theorem pcol_in (s : ByteArray) (i : Int) : pcol s i = pcol s ((inS s i : Nat) : Int) := by
  unfold pcol
  rw [inS_in s (inS_le s i)]
theorem cntB_le (s : ByteArray) (i : Nat) : cntB s i ≤ i := by
  unfold cntB
  refine Nat.le_trans List.count_le_length ?_
  rw [List.length_take]; omega
theorem cntB_same {s : ByteArray} {a : Nat} : ∀ {b : Nat}, a ≤ b → b ≤ s.size → (∀ j, a ≤ j → j < b → s.data.toList[j]? ≠ some 10) → cntB s b = cntB s a
  | 0, h, _, _ => by obtain rfl : a = 0 := by omega
                     rfl
  | b + 1, h, hs, hn => by
    rcases Nat.lt_or_ge a (b + 1) with g | g
    · rw [cntB_succ (by omega), if_neg (hn b (by omega) (by omega)), Nat.add_zero]
      exact cntB_same (by omega) (by omega) (fun j h1 h2 => hn j h1 (by omega))
    · obtain rfl : a = b + 1 := by omega
      rfl
theorem ix_pos {s : ByteArray} {o m : Nat} (h : ixN s o = (m : Int)) : s.data.toList[o + m]? = some 10 ∧ ∀ j, o ≤ j → j < o + m → s.data.toList[j]? ≠ some 10 := by
  unfold ixN at h
  rw [ext_tail] at h
  obtain ⟨e1, e2⟩ := Lib.indexByte_some h
  rw [List.getElem?_drop] at e1
  refine ⟨e1, fun j h1 h2 hc => ?_⟩
  exact absurd (by rw [List.getElem?_drop, show o + (j - o) = j from by omega]; exact hc) (e2 (j - o) (by omega))
theorem ix_neg {s : ByteArray} {o : Nat} (h : ixN s o < 0) : ∀ j, o ≤ j → s.data.toList[j]? ≠ some 10 := by
  unfold ixN at h
  rw [ext_tail] at h
  have hge := Lib.indexByte_ge (s.data.toList.drop o) 10
  intro j h1 hc
  have := Lib.indexByte_none (show Lib.indexByte (s.data.toList.drop o) 10 = -1 by omega) (j - o)
  rw [List.getElem?_drop, show o + (j - o) = j from by omega] at this
  exact this hc
theorem offL_spec {s : ByteArray} : ∀ {j o : Nat}, offL s j = some o → cntB s o = j ∧ bolB s o o
  | 0, o, h => by cases h; exact ⟨by simp [cntB], bol_zero s⟩
  | j + 1, o, h => by
    unfold offL at h
    split at h
    · cases h
    · rename_i o' ho'
      have h1 := offL_le s ho'
      have h2 := ixN_bd s h1
      obtain ⟨h3, h4⟩ := offL_spec ho'
      split at h
      · cases h
      · rename_i hn
        obtain ⟨m, hm⟩ : ∃ m : Nat, ixN s o' = m := ⟨_, (Int.toNat_of_nonneg (by omega)).symm⟩
        obtain ⟨e1, e2⟩ := ix_pos hm
        rw [hm, Int.toNat_natCast] at h
        cases h
        have hlt : o' + m < s.size := by rw [hm] at h2; omega
        refine ⟨?_, bol_nl e1⟩
        rw [cntB_succ hlt, if_pos e1, cntB_same (a := o') (by omega) (by omega) e2, h3]
theorem offP_ex {s : ByteArray} {line col y : Int} (h : offP s line col = some y) : ∃ x : Nat, x ≤ s.size ∧ ((pln s (x : Int) : Nat) : Int) = line ∧ pcol s (x : Int) = col ∧ y = x := by
  unfold offP at h
  split at h
  · cases h
  · rename_i hlc
    split at h
    · cases h
    · rename_i o ho
      have hos := offL_le s ho
      obtain ⟨h3, h4⟩ := offL_spec ho
      have hbd := ixN_bd s hos
      split at h
      · cases h
      · rename_i hc
        cases h
        have hno : ∀ j, o ≤ j → j < o + (col - 1).toNat → s.data.toList[j]? ≠ some 10 := by
          unfold endL at hc
          split at hc
          · rename_i hn
            exact fun j h1 _ => ix_neg hn j h1
          · rename_i hn
            obtain ⟨m, hm⟩ : ∃ m : Nat, ixN s o = m := ⟨_, (Int.toNat_of_nonneg (by omega)).symm⟩
            rw [hm] at hc
            exact fun j h1 h2 => (ix_pos hm).2 j h1 (by omega)
        have hxs : o + (col - 1).toNat ≤ s.size := by
          unfold endL at hc
          split at hc <;> omega
        have hb : bolB s (o + (col - 1).toNat) o := ⟨by omega, hno, h4.2.2⟩
        refine ⟨o + (col - 1).toNat, hxs, ?_, ?_, by omega⟩
        · rw [pln_at hxs, cntB_same (a := o) (by omega) hxs hno, h3]; omega
        · rw [pcol_at hxs hb]; omega
theorem offP_at {s : ByteArray} {x : Nat} {line col : Int} (h : x ≤ s.size) (h1 : ((pln s (x : Int) : Nat) : Int) = line) (h2 : pcol s (x : Int) = col) : offP s line col = some (x : Int) := by
  rw [← h1, ← h2]; exact (back_law h).2.2.2

/-! ### what a line begins with -/
def isBl (o : Option UInt8) : Prop := o = some 32 ∨ o = some 9
/-- the blanks and tabs from byte o on end at n -/
def blkB (s : ByteArray) (o n : Nat) : Prop := o ≤ n ∧ n ≤ s.size ∧ (∀ j, o ≤ j → j < n → isBl (s.data.toList[j]?)) ∧ ¬ isBl (s.data.toList[n]?)
theorem blk_uniq {s : ByteArray} {o n n' : Nat} (h : blkB s o n) (h' : blkB s o n') : n = n' := by
  rcases Nat.lt_trichotomy n n' with g | g | g
  · exact absurd (h'.2.2.1 n h.1 g) h.2.2.2
  · exact g
  · exact absurd (h.2.2.1 n' h'.1 g) h'.2.2.2
def cutB : List UInt8 := [32, 9]
theorem cut_iff (b : UInt8) : cutB.contains b = true ↔ b = 32 ∨ b = 9 := by simp [cutB]
theorem blk_trim {s : ByteArray} {o n : Nat} (h : blkB s o n) : Lib.trimLeftS (s.extract o s.size).data.toList cutB = (s.extract n s.size).data.toList := by
  obtain ⟨h1, h2, h3, h4⟩ := h
  rw [ext_tail, ext_tail]
  have hl : s.data.toList.length = s.size := Array.length_toList
  rw [Lib.trimLeftS_drop _ _ (n - o) (by rw [List.length_drop]; omega) (fun j b hj hb => ?_) (fun b hb => ?_), List.drop_drop]
  · congr 1; omega
  · rw [List.getElem?_drop] at hb
    have := h3 (o + j) (by omega) (by omega)
    rw [hb] at this
    rw [cut_iff]
    rcases this with e | e <;> cases e <;> simp
  · rw [List.getElem?_drop, show o + (n - o) = n from by omega] at hb
    cases hc : cutB.contains b with
    | false => rfl
    | true =>
      refine absurd ?_ h4
      rw [hb]
      rcases (cut_iff b).1 hc with e | e
      · exact .inl (by rw [e])
      · exact .inr (by rw [e])
theorem blk_ex (s : ByteArray) : ∀ (d o : Nat), o + d = s.size → ∃ n, blkB s o n
  | 0, o, h => ⟨o, Nat.le_refl _, by omega, fun j h1 h2 => by omega, by
    rw [List.getElem?_eq_none (by rw [Array.length_toList]; show s.size ≤ o; omega)]
    rintro (e | e) <;> cases e⟩
  | d + 1, o, h => by
    by_cases hb : isBl (s.data.toList[o]?)
    · obtain ⟨n, h1, h2, h3, h4⟩ := blk_ex s d (o + 1) (by omega)
      refine ⟨n, by omega, h2, fun j g1 g2 => ?_, h4⟩
      rcases Nat.lt_or_ge o j with g | g
      · exact h3 j (by omega) g2
      · obtain rfl : j = o := by omega
        exact hb
    · exact ⟨o, Nat.le_refl _, by omega, fun j h1 h2 => by omega, hb⟩
end Go.Proofs.YtnonbonegbdfpaaDoor
