/- spans.Indent: all the blanks and tabs that a line begins with. -/
import Derived.Test.YtnonbonegbdfpaaDoorSpRefP
import Derived.Shelf.Strings.SlTrimAscii
namespace Go.Proofs.YtnonbonegbdfpaaDoor
open Go Go.RowKit Go.Shelf Go.Lib

theorem trim_calls (s : ByteArray) (w : World) : Calls Tryd.prog 20 #[.string s, .string ⟨#[32, 9]⟩] w fun e w' => e = .returned (.string ⟨(Lib.trimLeftS s.data.toList cutB).toArray⟩) ∧ Below w.heap.size w w' :=
  Any.strings_TrimLeft_laid Tryd.lays161 (by kernel_rfl) s ⟨#[32, 9]⟩ w (by decide) (ascii_of_all (by decide))
theorem ext_ext {s : ByteArray} {b n : Nat} (h1 : b ≤ n) (h2 : n ≤ s.size) : (s.extract b s.size).extract 0 (n - b) = s.extract b n := by
  apply ByteArray.ext
  apply Array.toList_inj.1
  rw [ext_list, ext_list, ext_list, List.drop_zero, Nat.sub_zero, List.take_take]
  congr 1
  omega

set_option maxHeartbeats 2000000 in
theorem indent_calls {s : ByteArray} {i : Int} {w : World} {b n : Nat} (hs : s.size ≤ 140737488355328) (hb : bolB s (inS s i) b) (hn : blkB s b n) :
    Calls Tryd.prog 9 #[.string s, .int .i64 i] w fun e w' => e = .returned (.string (s.extract b n)) ∧ Below w.heap.size w w' := by
  have hk := inS_le s i
  have HW : Hid (∀ w, Calls Tryd.prog 19 #[.string s, .int .i64 i] w fun e w' => e = .returned (.int .i64 ((inS s i : Nat) : Int)) ∧ w' = w) := fun w => within_calls (by omega)
  obtain ⟨k, hkk⟩ : ∃ k, inS s i = k := ⟨_, rfl⟩
  rw [hkk] at hk HW hb
  clear hkk
  have hbk := hb.1
  have hbn := hn.1
  have hns := hn.2.1
  have HE : Hid ((s.extract b s.size).extract 0 (n - b) = s.extract b n) := ext_ext hbn hns
  have hla := bol_last hk hb
  have HT0 := blk_trim hn
  obtain ⟨P, hP⟩ : ∃ P, s.extract 0 k = P := ⟨_, rfl⟩
  obtain ⟨T, hT⟩ : ∃ T, s.extract b s.size = T := ⟨_, rfl⟩
  obtain ⟨U, hU⟩ : ∃ U, s.extract n s.size = U := ⟨_, rfl⟩
  have hTs : T.size = s.size - b := by rw [← hT, ByteArray.size_extract]; omega
  have hUs : U.size = s.size - n := by rw [← hU, ByteArray.size_extract]; omega
  rw [hT] at HE HT0
  rw [hU] at HT0
  rw [hP] at hla
  have HL : Hid (∀ w, Calls Tryd.prog 18 #[.string P, .int .u8 10] w fun e w' => e = .returned (.int .i64 ((b : Int) - 1)) ∧ w' = w) := fun w => by
    have := Tryd.strings_LastIndexByte P 10 (by rw [← hP, ByteArray.size_extract]; omega) w
    rwa [hla] at this
  have HTR : Hid (∀ w, Calls Tryd.prog 20 #[.string T, .string ⟨#[32, 9]⟩] w fun e w' => e = .returned (.string U) ∧ Below w.heap.size w w') := fun w => by
    have := trim_calls T w
    rwa [HT0] at this
  have hxx : (T.size : Int) - (U.size : Int) = ((n - b : Nat) : Int) := by omega
  have hb1 : (b : Int) - 1 + 1 = (b : Int) := by omega
  have hbs : b ≤ s.size := by omega
  have hnT : n - b ≤ T.size := by omega
  have HTS := Lib.hid hTs
  have HUS := Lib.hid hUs
  clear hla HT0 hU hTs hUs hb hn
  go_enter Tryd.func9, Tryd.ntmps9
  go_wp2_with (first
    | (go_at_call 19; refine (HW.out _).mono ?_; rintro e w1 ⟨rfl, rfl⟩)
    | (go_at_call 18; refine (HL.out _).mono ?_; rintro e w2 ⟨rfl, rfl⟩)
    | (go_at_call 20; refine (HTR.out _).mono ?_; rintro e w3 ⟨rfl, hb3⟩))
  go_ret
  exact ⟨by rw [← HE.out]; rfl, hb3⟩
end Go.Proofs.YtnonbonegbdfpaaDoor
