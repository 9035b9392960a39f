/- spans.Offset. -/
import Derived.Test.YtnonbonegbdfpaaDoorSpPlace
import Derived.Deep.LoopGhost
namespace Go.Proofs.YtnonbonegbdfpaaDoor
open Go Go.RowKit

/-- the next line's end behind byte o -/
def ixN (s : ByteArray) (o : Nat) : Int := Lib.indexByte (s.extract o s.size).data.toList 10
def offL (s : ByteArray) : Nat → Option Nat
  | 0 => some 0
  | j + 1 => match offL s j with | none => none | some o => if ixN s o < 0 then none else some (o + (ixN s o).toNat + 1)
def endL (s : ByteArray) (o : Nat) : Int := if ixN s o < 0 then (s.size : Int) - o else ixN s o
def offP (s : ByteArray) (line col : Int) : Option Int :=
  if line < 1 ∨ col < 1 then none else match offL s (line - 1).toNat with | none => none | some o => if col - 1 > endL s o then none else some (o + col - 1)
theorem ixN_bd (s : ByteArray) {o : Nat} (ho : o ≤ s.size) : -1 ≤ ixN s o ∧ (ixN s o < 0 ∨ ixN s o + o < s.size) := by
  refine ⟨Lib.indexByte_ge _ _, ?_⟩
  rcases Int.lt_or_le (ixN s o) 0 with h | h
  · exact .inl h
  · right
    obtain ⟨k, hk⟩ : ∃ k : Nat, ixN s o = k := ⟨(ixN s o).toNat, by omega⟩
    have h1 := (Lib.indexByte_some hk).1
    have h2 := (List.getElem?_eq_some_iff.1 h1).1
    have h3 : (s.extract o s.size).data.toList.length = s.size - o := by
      rw [Array.length_toList]; show (s.extract o s.size).size = _; rw [ByteArray.size_extract]; omega
    omega
theorem offL_le (s : ByteArray) : ∀ {j o : Nat}, offL s j = some o → o ≤ s.size
  | 0, o, h => by cases h; omega
  | j + 1, o, h => by
    unfold offL at h
    split at h
    · cases h
    · rename_i o' ho'
      have h1 := offL_le s ho'
      have h2 := ixN_bd s h1
      split at h
      · cases h
      · cases h; omega
theorem offL_none (s : ByteArray) {j : Nat} (h : offL s j = none) : ∀ {m : Nat}, j ≤ m → offL s m = none
  | 0, hm => by obtain rfl : j = 0 := by omega
                exact h
  | m + 1, hm => by
    rcases Nat.lt_or_ge j (m + 1) with hk | hk
    · unfold offL; rw [offL_none s h (Nat.le_of_lt_succ hk)]
    · obtain rfl : j = m + 1 := by omega
      exact h
def OffRes (s : ByteArray) (line col : Int) (w : World) (e : Ending) (w' : World) : Prop :=
  ((∃ x, offP s line col = some x ∧ e = .returned (.tuple #[.int .i64 x, .bool true])) ∨ (offP s line col = none ∧ e = .returned (.tuple #[.int .i64 0, .bool false]))) ∧ w' = w

set_option maxHeartbeats 2000000 in
set_option maxRecDepth 100000 in
theorem offset_calls {s : ByteArray} {line col : Int} {w : World} (hs : s.size ≤ 140737488355328) (hl : line ≤ 9223372036854775807) (hc : col ≤ 9223372036854775807) :
    Calls Tryd.prog 12 #[.string s, .int .i64 line, .int .i64 col] w (OffRes s line col w) := by
  have HRES : ∀ e w', OffRes s line col w e w' → OffRes s line col w e w' := fun _ _ h => h
  have HR := Lib.hid HRES
  clear HRES
  by_cases hln : line < 1
  · have HF : Hid (offP s line col = none) := if_pos (.inl hln)
    go_enter Tryd.func12, Tryd.ntmps12
    go_wp2_with fail
    go_ret2
    exact HR.out _ _ ⟨.inr ⟨HF.out, rfl⟩, rfl⟩
  by_cases hcl : col < 1
  · have HF : Hid (offP s line col = none) := if_pos (.inr hcl)
    go_enter Tryd.func12, Tryd.ntmps12
    go_wp2_with fail
    go_ret2
    exact HR.out _ _ ⟨.inr ⟨HF.out, rfl⟩, rfl⟩
  have HF : Hid (offP s line col = match offL s (line - 1).toNat with | none => none | some o => if col - 1 > endL s o then none else some (o + col - 1)) := if_neg (by omega)
  obtain ⟨n, hn⟩ : ∃ n : Nat, line = n + 1 := ⟨(line - 1).toNat, by omega⟩
  obtain ⟨k, hk⟩ : ∃ k : Nat, col = k + 1 := ⟨(col - 1).toNat, by omega⟩
  have HF2 : Hid (offP s line col = match offL s n with | none => none | some o => if (k : Int) > endL s o then none else some ((o : Int) + k)) := by
    unfold Hid; rw [HF.out, show (line - 1).toNat = n from by omega]
    cases offL s n with
    | none => rfl
    | some o => simp only [show col - 1 = (k : Int) from by omega, show (o : Int) + col - 1 = o + k from by omega]
  have HIX : Hid (∀ o w, Calls Tryd.prog 23 #[.string (s.extract o s.size), .int .u8 10] w fun e w' => e = .returned (.int .i64 (ixN s o)) ∧ w' = w) := fun o w => Tryd.strings_IndexByte (s.extract o s.size) 10 w
  clear HF
  subst hn
  subst hk
  have hn2 : n ≤ 9223372036854775806 := by omega
  have hk2 : k ≤ 9223372036854775806 := by omega
  clear hl hc
  go_enter Tryd.func12, Tryd.ntmps12
  go_wp2_with fail
  go_loopg [18, 6] n (fun d i a wr => ∃ (j o : Nat), d = n - j ∧ j ≤ n ∧ i = .int .i64 j ∧ a = .int .i64 o ∧ o ≤ s.size ∧ Hid (offL s j = some o) ∧ wr = w)
  case atStart => exact ⟨0, 0, by simp, by omega, rfl, rfl, by omega, rfl, rfl⟩
  case round =>
    obtain ⟨j, o, rfl, hj, rfl, rfl, ho, HO, rfl⟩ := hrel
    have hbd := ixN_bd s ho
    clear hln hcl
    by_cases hlt : j < n
    · have hltI : (j : Int) < (n : Int) := by omega
      by_cases hneg : ixN s o < 0
      · have HN : Hid (offP s (n + 1) (k + 1) = none) := by
          unfold Hid; rw [HF2.out, offL_none s (j := j + 1) (by unfold offL; rw [HO.out]; exact if_pos hneg) hlt]
        obtain ⟨x, hx⟩ : ∃ x, ixN s o = x := ⟨_, rfl⟩
        have HI := Lib.hid (HIX.out o wr)
        rw [hx] at HI hneg
        clear hx
        go_wp2_with (go_at_call 23; refine HI.out.mono ?_; rintro e w' ⟨rfl, rfl⟩)
        go_ret2
        exact HR.out _ _ ⟨.inr ⟨HN.out, rfl⟩, rfl⟩
      · obtain ⟨x, hx⟩ : ∃ x : Nat, ixN s o = x := ⟨(ixN s o).toNat, by omega⟩
        have HI := Lib.hid (HIX.out o wr)
        have HO2 : Hid (offL s (j + 1) = some (o + x + 1)) := by
          unfold Hid offL; rw [HO.out]; exact (if_neg hneg).trans (by rw [hx]; rfl)
        have hxs : o + x < s.size := by omega
        rw [hx] at HI
        clear hx hneg hbd
        go_wp2_with (go_at_call 23; refine HI.out.mono ?_; rintro e w' ⟨rfl, rfl⟩)
        go_roundg (n - (j + 1))
        case measure => omega
        case rel => exact ⟨j + 1, o + x + 1, rfl, by omega, by go_num, by go_num, by omega, HO2.out, rfl⟩
    · obtain rfl : j = n := by omega
      have HFo : Hid (offP s (j + 1) (k + 1) = if (k : Int) > endL s o then none else some ((o : Int) + k)) := by
        unfold Hid; rw [HF2.out, HO.out]
      have HI := Lib.hid (HIX.out o wr)
      by_cases hneg : ixN s o < 0
      · have HE : Hid (endL s o = (s.size : Int) - o) := if_pos hneg
        obtain ⟨x, hx⟩ : ∃ x, ixN s o = x := ⟨_, rfl⟩
        rw [hx] at HI hneg
        clear hx hbd
        by_cases hbig : (k : Int) > (s.size : Int) - o
        · have HN : Hid (offP s (j + 1) (k + 1) = none) := by unfold Hid; rw [HFo.out, HE.out]; exact if_pos hbig
          go_wp2_with (go_at_call 23; refine HI.out.mono ?_; rintro e w' ⟨rfl, rfl⟩)
          go_ret2
          exact HR.out _ _ ⟨.inr ⟨HN.out, rfl⟩, rfl⟩
        · have HN : Hid (offP s (j + 1) (k + 1) = some ((o : Int) + k)) := by unfold Hid; rw [HFo.out, HE.out]; exact if_neg hbig
          go_wp2_with (go_at_call 23; refine HI.out.mono ?_; rintro e w' ⟨rfl, rfl⟩)
          go_ret2
          exact HR.out _ _ ⟨.inl ⟨_, HN.out, by go_num⟩, rfl⟩
      · have HE : Hid (endL s o = ixN s o) := if_neg hneg
        obtain ⟨x, hx⟩ : ∃ x : Nat, ixN s o = x := ⟨(ixN s o).toNat, by omega⟩
        have hxs : o + x < s.size := by omega
        rw [hx] at HI HE
        clear hx hneg hbd
        by_cases hbig : (k : Int) > (x : Int)
        · have HN : Hid (offP s (j + 1) (k + 1) = none) := by unfold Hid; rw [HFo.out, HE.out]; exact if_pos hbig
          go_wp2_with (go_at_call 23; refine HI.out.mono ?_; rintro e w' ⟨rfl, rfl⟩)
          go_ret2
          exact HR.out _ _ ⟨.inr ⟨HN.out, rfl⟩, rfl⟩
        · have HN : Hid (offP s (j + 1) (k + 1) = some ((o : Int) + k)) := by unfold Hid; rw [HFo.out, HE.out]; exact if_neg hbig
          go_wp2_with (go_at_call 23; refine HI.out.mono ?_; rintro e w' ⟨rfl, rfl⟩)
          go_ret2
          exact HR.out _ _ ⟨.inl ⟨_, HN.out, by go_num⟩, rfl⟩
end Go.Proofs.YtnonbonegbdfpaaDoor
