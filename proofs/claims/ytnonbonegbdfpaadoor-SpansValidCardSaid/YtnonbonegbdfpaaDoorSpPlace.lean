/- spans.within, Place. -/
import Derived.Test.YtnonbonegbdfpaaDoorSpCmp
import Derived.Test.YtnonbonegbdfpaaDoorShelf
import Derived.Lib.LastIndexByte
namespace Go.Proofs.YtnonbonegbdfpaaDoor
open Go Go.RowKit

/-- a place, brought into a text -/
def inS (s : ByteArray) (i : Int) : Nat := min i.toNat s.size
theorem inS_le (s : ByteArray) (i : Int) : inS s i ≤ s.size := Nat.min_le_right _ _
theorem within_calls {s : ByteArray} {i : Int} {w : World} (hs : s.size ≤ 9223372036854775807) :
    Calls Tryd.prog 19 #[.string s, .int .i64 i] w fun e w' => e = .returned (.int .i64 ((inS s i : Nat) : Int)) ∧ w' = w := by
  have HF : Hid (min (max i 0) (s.size : Int) = ((inS s i : Nat) : Int)) := by unfold Hid inS; omega
  go_enter Tryd.func19, Tryd.ntmps19
  go_wp2_with fail
  go_ret
  exact ⟨by rw [← HF.out]; first | rfl | simp, rfl⟩
def pln (s : ByteArray) (i : Int) : Nat := 1 + Lib.countByte (s.extract 0 (inS s i)).data.toList 10
def pcol (s : ByteArray) (i : Int) : Int := ((s.extract 0 (inS s i)).size : Int) - Lib.lastIndexByte (s.extract 0 (inS s i)) 10
theorem place_calls {s : ByteArray} {i : Int} {w : World} (hs : s.size ≤ 140737488355328) :
    Calls Tryd.prog 10 #[.string s, .int .i64 i] w fun e w' => e = .returned (.tuple #[.int .i64 (pln s i : Nat), .int .i64 (pcol s i)]) ∧ w' = w := by
  have hk := inS_le s i
  have HS := Lib.hid hs
  obtain ⟨t, ht⟩ : ∃ t, s.extract 0 (inS s i) = t := ⟨_, rfl⟩
  have hts : t.size = inS s i := by rw [← ht, ByteArray.size_extract]; omega
  obtain ⟨n, hn⟩ : ∃ n, Lib.countByte t.data.toList 10 = n := ⟨_, rfl⟩
  have hnl : n ≤ t.size := by rw [← hn]; exact List.count_le_length
  obtain ⟨m, hm⟩ : ∃ m, Lib.lastIndexByte t 10 = m := ⟨_, rfl⟩
  have hml : -1 ≤ m ∧ m < t.size := by
    rcases Lib.lastIndexByte_spec t 10 with h | ⟨j, h1, h2, h3⟩ <;> omega
  have h1 : pln s i = 1 + n := by unfold pln; rw [ht, hn]
  have h2 : pcol s i = (t.size : Int) - m := by unfold pcol; rw [ht, hm]
  have hc := Tryd.strings_Count_one t 10 w
  have hl := Tryd.strings_LastIndexByte t 10 (by omega) w
  rw [hn] at hc
  rw [hm] at hl
  rw [h1, h2]
  have HH := Lib.hid hs
  clear hn hm h1 h2
  have hb := hts
  obtain ⟨k, hkk⟩ : ∃ k, inS s i = k := ⟨_, rfl⟩
  rw [hkk] at hk hts ht hb
  have HC := Lib.hid hc
  have HL := Lib.hid hl
  clear hc hl
  go_enter Tryd.func10, Tryd.ntmps10
  go_wp2_with (first
    | (go_at_call 19; refine (within_calls (by have := HH.out; omega)).mono ?_; rintro e w' ⟨rfl, rfl⟩; rw [hkk])
    | (go_at_call 21; refine HC.out.mono ?_; rintro e w' ⟨rfl, rfl⟩)
    | (go_at_call 18; refine HL.out.mono ?_; rintro e w' ⟨rfl, rfl⟩))
  go_ret2
  exact ⟨by simp [hts], rfl⟩
end Go.Proofs.YtnonbonegbdfpaaDoor
