/- spans.Valid, recastref1.Valid, recastlaw1.SpansValid. -/
import Derived.Test.YtnonbonegbdfpaaDoorSpVal
import Derived.Test.YtnonbonegbdfpaaDoorSpAwake
import Derived.Lib.OthersKept
import Derived.Shelf.Unicode.DecodeSlow
namespace Go.Proofs.YtnonbonegbdfpaaDoor
open Go Go.RowKit Go.Lib

theorem valF_zero {s : ByteArray} {f pos : Nat} (hp : pos < s.size) (h : (Utf8.decode s pos).1 = 0) : valF s (f + 1) pos = false := by unfold valF; rw [if_pos hp, if_pos h]
theorem valF_bad {s : ByteArray} {f pos : Nat} (hp : pos < s.size) (h : Utf8.decode s pos = (65533, 1)) : valF s (f + 1) pos = false := by
  unfold valF
  rw [if_pos hp, if_neg (by rw [h]; simp), if_pos h]
theorem valF_next {s : ByteArray} {f pos : Nat} (hp : pos < s.size) (h0 : (Utf8.decode s pos).1 ≠ 0) (h : Utf8.decode s pos ≠ (65533, 1)) : valF s (f + 1) pos = valF s f (pos + (Utf8.decode s pos).2) := by
  conv => lhs; unfold valF
  rw [if_pos hp, if_neg h0, if_neg h]
theorem valF_end {s : ByteArray} {f pos : Nat} (hp : ¬ pos < s.size) : valF s f pos = true := by
  cases f with
  | zero => rfl
  | succ f => unfold valF; rw [if_neg hp]
theorem dec_hi (s : ByteArray) (p : Nat) : (Utf8.decode s p).1 ≤ 1114111 := by
  rw [decode_at]
  have h0 : (s.get! p).toNat < 256 := UInt8.toNat_lt _
  unfold decodeN
  (repeat' split) <;> simp only <;> omega

set_option maxHeartbeats 4000000 in
set_option maxRecDepth 1000000 in
theorem valid_calls {s : ByteArray} {w : World} (hs : s.size ≤ 140737488355328) (hT : Lib.Utf8Tabs 0 1 w) :
    Calls Tryd.prog 6 #[.string s] w fun e w' => e = .returned (.bool (valF s s.size 0)) ∧ Below w.heap.size w w' := by
  have HTB : Hid (∀ W, Below w.heap.size w W → Lib.Utf8Tabs 0 1 W) := fun W h => Utf8Tabs_below hT h
  obtain ⟨r, hr⟩ : ∃ r, valF s s.size 0 = r := ⟨_, rfl⟩
  rw [hr]
  have HV := Lib.hid hr
  clear hr hT
  go_enter Tryd.func6, Tryd.ntmps6
  go_wp2_with fail
  go_loopw [] (fun wr => ∃ (pos fuel : Nat), wr.heap[w.heap.size]? = some (.stringIter s pos) ∧ Hid (Below w.heap.size w wr) ∧ Hid (valF s fuel pos = r) ∧ s.size ≤ pos + fuel ∧ pos ≤ s.size) (fun wr => s.size - wr.iterPos w.heap.size)
  case atStart =>
    refine ⟨0, s.size, ?_, (Below.refl _ w).alloc (Nat.le_refl _) _, HV.out, by omega, by omega⟩
    exact World.iter_heap w s 0
  case round =>
    obtain ⟨pos, fuel, hit, HBW, HVF, hfu, hps⟩ := hrel
    have hsz : w.heap.size < wr.heap.size := (Array.getElem?_eq_some_iff.1 hit).1
    by_cases hp : pos < s.size
    · obtain ⟨f, rfl⟩ : ∃ f, fuel = f + 1 := ⟨fuel - 1, by omega⟩
      have hw := dec_w s pos hp
      have hhi := dec_hi s pos
      have hz := fun h => valF_zero (f := f) hp h
      have hbad := fun h => valF_bad (f := f) hp h
      have hnext := fun h0 h => valF_next (f := f) hp h0 h
      have hed := ext_dec hp
      have hnx : ∀ ty, (Instr.next (.pointer (some ⟨w.heap.size, 0, none⟩)) true ty).run Tryd.prog wr = .ok (.tuple #[.bool true, .int .i64 pos, .int .i32 (Utf8.decode s pos).1]) (wr.iterAt w.heap.size s (pos + (Utf8.decode s pos).2)) := fun ty => Lib.run_next_any_at wr w.heap.size s pos ty hit hp
      obtain ⟨D1, D2, hD⟩ : ∃ D1 D2, Utf8.decode s pos = (D1, D2) := ⟨_, _, rfl⟩
      rw [hD] at hw hhi hz hbad hnext hed
      simp only [hD] at hnx
      simp only at hw hhi hz hbad hnext
      have hit2 := Lib.iterAt_heap wr w.heap.size s pos (pos + D2) hit
      have HB2 : Hid (Below w.heap.size w (wr.iterAt w.heap.size s (pos + D2))) := Lib.below_iterAt HBW.out (Nat.le_refl _) s (pos + D2)
      have hz2 : (wr.iterAt w.heap.size s (pos + D2)).heap.size = wr.heap.size := Lib.iterAt_size _ _ _ _
      have HED := Lib.hid hed
      have HNX := Lib.hid hnext
      have HBD := Lib.hid hbad
      have HZ := Lib.hid hz
      have HZ2 := Lib.hid hz2
      have HI2 := Lib.hid hit2
      have HIT := Lib.hid hit
      clear hed hnext hbad hz hD hz2 hit2 hit
      by_cases h0 : D1 = 0
      · have HF : Hid (r = false) := by have h1 := HVF.out; rw [HZ.out h0] at h1; exact h1.symm
        subst h0
        go_wp2_with fail
        go_ret
        exact ⟨by rw [HF.out]; rfl, HB2.out⟩
      · have hd0 : (((D1 : Nat) : Int) == 0) = false := by simpa using h0
        have HH0 := Lib.hid h0
        by_cases h1 : D1 = 65533
        · have hd1 : (((D1 : Nat) : Int) == 65533) = true := by rw [h1]; rfl
          have hdg : Lib.decodeGo (s.extract pos s.size) = (D1, D2) := by
            unfold Lib.decodeGo
            rw [if_neg (by rw [ByteArray.size_extract]; omega), HED.out]
          have HDC : Hid (∀ W, Below w.heap.size w W → Calls Tryd.prog 15 #[.string (s.extract pos s.size)] W fun e w' => e = .returned (.tuple #[.int .i32 (D1 : Int), .int .i64 (D2 : Int)]) ∧ Below W.heap.size W w') := fun W h => by
            have := Tryd.utf8_DecodeRuneInString (s.extract pos s.size) W (HTB.out W h)
            rw [hdg] at this
            exact this
          have HH1 := Lib.hid h1
          clear h0 h1 hdg
          by_cases h2 : D2 = 1
          · have HF : Hid (r = false) := by have h3 := HVF.out; rw [HBD.out (by rw [HH1.out, h2])] at h3; exact h3.symm
            have hd2 : (((D2 : Nat) : Int) == 1) = true := by rw [h2]; rfl
            clear h2
            go_wp2_with (go_at_call 15; refine (HDC.out _ HB2.out).mono ?_; rintro e w5 ⟨rfl, hb5⟩)
            go_ret
            exact ⟨by rw [HF.out]; rfl, HB2.out.trans (hb5.mono HB2.out.size)⟩
          · have HF : Hid (valF s f (pos + D2) = r) := by have h3 := HVF.out; rw [HNX.out HH0.out (by intro e; cases e; exact h2 rfl)] at h3; exact h3
            have hd2 : (((D2 : Nat) : Int) == 1) = false := by
              cases e : (((D2 : Nat) : Int) == 1) with
              | false => rfl
              | true => exact absurd (by have := beq_iff_eq.1 e; omega) h2
            clear h2
            go_wp2_with (go_at_call 15; refine (HDC.out _ HB2.out).mono ?_; rintro e w5 ⟨rfl, hb5⟩)
            have hit5 : w5.heap[w.heap.size]? = some (.stringIter s (pos + D2)) := (hb5.block w.heap.size (by rw [HZ2.out]; exact hsz)).trans HI2.out
            go_roundw
            case rel => exact ⟨pos + D2, f, hit5, HB2.out.trans (hb5.mono HB2.out.size), HF.out, by omega, hw.2⟩
            case measure =>
              simp only [World.iterPos, hit5, HIT.out]
              omega
        · have hd1 : (((D1 : Nat) : Int) == 65533) = false := by
            cases e : (((D1 : Nat) : Int) == 65533) with
            | false => rfl
            | true => exact absurd (by have := beq_iff_eq.1 e; omega) h1
          have HF : Hid (valF s f (pos + D2) = r) := by have h3 := HVF.out; rw [HNX.out HH0.out (by intro e; cases e; exact h1 rfl)] at h3; exact h3
          clear h0 h1
          go_wp2_with fail
          go_roundw
          case rel => exact ⟨pos + D2, f, HI2.out, HB2.out, HF.out, by omega, hw.2⟩
          case measure =>
            simp only [World.iterPos, HI2.out, HIT.out]
            omega
    · have HF : Hid (r = true) := by have h1 := HVF.out; rw [valF_end hp] at h1; exact h1.symm
      have hnx : ∀ ty, (Instr.next (.pointer (some ⟨w.heap.size, 0, none⟩)) true ty).run Tryd.prog wr = .ok (.tuple #[.bool false]) wr := fun ty => Lib.run_next_end_at wr w.heap.size s pos ty hit hp
      clear hit
      go_wp2_with fail
      go_ret
      exact ⟨by rw [HF.out]; rfl, HBW.out⟩

set_option maxHeartbeats 4000000 in
set_option maxRecDepth 100000 in
theorem refValid_calls {s : ByteArray} {w : World} (hs : s.size ≤ 140737488355328) :
    Calls Tryd.prog 7 #[.string s] w fun e w' => e = .returned (.bool (valF s s.size 0)) ∧ w' = w := by
  obtain ⟨r, hr⟩ : ∃ r, valF s s.size 0 = r := ⟨_, rfl⟩
  rw [hr]
  have HV := Lib.hid hr
  clear hr
  go_enter Tryd.func7, Tryd.ntmps7
  go_wp2_with fail
  go_loopg [0] s.size (fun d sv wr => ∃ (pos fuel : Nat) (T : ByteArray), d = s.size - pos ∧ pos ≤ s.size ∧ sv = .string T ∧ T.size = s.size - pos ∧ Hid (T = s.extract pos s.size) ∧ Hid (valF s fuel pos = r) ∧ s.size ≤ pos + fuel ∧ wr = w)
  case atStart => exact ⟨0, s.size, s, by simp, by omega, rfl, by omega, (by unfold Hid; exact (ByteArray.extract_zero_size).symm), HV.out, by omega, rfl⟩
  case round =>
    obtain ⟨pos, fuel, T, rfl, hps, rfl, hts, HT, HVF, hfu, rfl⟩ := hrel
    by_cases hp : pos < s.size
    · obtain ⟨f, rfl⟩ : ∃ f, fuel = f + 1 := ⟨fuel - 1, by omega⟩
      have hT0 : 0 < T.size := by omega
      have hT0I : (0 : Int) < (T.size : Int) := by omega
      have hw := dec_w s pos hp
      have hed : Utf8.decode T 0 = Utf8.decode s pos := by rw [HT.out]; exact ext_dec hp
      have HSZ : Hid (∀ W, Calls Tryd.prog 16 #[.string T] W fun e w' => e = .returned (.int .i64 ((szR T : Nat) : Int)) ∧ w' = W) := fun W => refSize_calls hT0 (by omega)
      have hb0 := gb_at hT0
      have hdz := dec_zero_iff T
      have hEXT : ∀ n, pos + n ≤ s.size → T.extract n T.size = s.extract (pos + n) s.size := fun n hn => by
        rw [HT.out]
        apply ByteArray.ext
        apply Array.toList_inj.1
        rw [ext_tail, ext_tail, ext_tail, List.drop_drop]
      obtain ⟨B, hB⟩ : ∃ B, gb T 0 = B := ⟨_, rfl⟩
      rw [hB] at hb0 hdz
      rw [hed] at hdz
      have HEX := Lib.hid hEXT
      have HDZ := Lib.hid hdz
      have HED := Lib.hid hed
      clear hB hEXT hdz hed
      by_cases hbd : Utf8.decode s pos = (65533, 1)
      · have HF : Hid (r = false) := by have h1 := HVF.out; rw [valF_bad hp hbd] at h1; exact h1.symm
        have hn : szR T = 0 := sz_zero (by rw [HED.out]; exact hbd)
        rw [hn] at HSZ
        clear hbd hw hn
        go_wp2_with (go_at_call 16; refine (HSZ.out _).mono ?_; rintro e w' ⟨rfl, rfl⟩)
        go_ret
        exact ⟨by rw [HF.out]; rfl, rfl⟩
      · have hn : szR T = (Utf8.decode s pos).2 := by unfold szR; rw [HED.out, if_neg hbd]
        rw [hn] at HSZ
        have HNX : Hid ((Utf8.decode s pos).1 ≠ 0 → valF s (f + 1) pos = valF s f (pos + (Utf8.decode s pos).2)) := fun h0 => valF_next hp h0 hbd
        have HZ : Hid ((Utf8.decode s pos).1 = 0 → valF s (f + 1) pos = false) := fun h => valF_zero hp h
        clear hn hbd HED
        obtain ⟨n, hn⟩ : ∃ n, (Utf8.decode s pos).2 = n := ⟨_, rfl⟩
        rw [hn] at HSZ HNX hw
        clear hn
        obtain ⟨hn1, hn2⟩ := hw
        have hdn : (((n : Nat) : Int) == 0) = false := by
          cases e : (((n : Nat) : Int) == 0) with
          | false => rfl
          | true => exact absurd (by have := beq_iff_eq.1 e; omega) (show ¬ n = 0 by omega)
        by_cases hB0 : B = 0
        · have HF : Hid (r = false) := by have h1 := HVF.out; rw [HZ.out (HDZ.out.2 hB0)] at h1; exact h1.symm
          have hdb : (((B : Nat) : Int) == 0) = true := by rw [hB0]; rfl
          clear hB0
          go_wp2_with (go_at_call 16; refine (HSZ.out _).mono ?_; rintro e w' ⟨rfl, rfl⟩)
          go_ret
          exact ⟨by rw [HF.out]; rfl, rfl⟩
        · have HF : Hid (valF s f (pos + n) = r) := by have h1 := HVF.out; rw [HNX.out (fun h => hB0 (HDZ.out.1 h))] at h1; exact h1
          have hdb : (((B : Nat) : Int) == 0) = false := by
            cases e : (((B : Nat) : Int) == 0) with
            | false => rfl
            | true => exact absurd (by have := beq_iff_eq.1 e; omega) hB0
          have hnT : n ≤ T.size := by omega
          have HTX : Hid (T.extract n T.size = s.extract (pos + n) s.size) := HEX.out n hn2
          have hTZ : (T.extract n T.size).size = s.size - (pos + n) := by rw [ByteArray.size_extract]; omega
          have HTZ := Lib.hid hTZ
          clear hB0 hTZ HEX HDZ HNX HZ hts
          go_wp2_with (go_at_call 16; refine (HSZ.out _).mono ?_; rintro e w' ⟨rfl, rfl⟩)
          go_roundg (s.size - (pos + n))
          case measure => omega
          case rel => exact ⟨pos + n, f, _, rfl, hn2, rfl, HTZ.out, HTX.out, HF.out, by omega, rfl⟩
    · have HF : Hid (r = true) := by have h1 := HVF.out; rw [valF_end hp] at h1; exact h1.symm
      have hTz : T.size = 0 := by omega
      have hTI : ¬(0 : Int) < (T.size : Int) := by omega
      go_wp2_with fail
      go_ret
      exact ⟨by rw [HF.out]; rfl, rfl⟩

set_option maxHeartbeats 4000000 in
set_option maxRecDepth 100000 in
theorem spansValid_walk {s : ByteArray} {w : World} (hs : s.size ≤ maxLen) (hT : Lib.Utf8Tabs 0 1 w) :
    Calls Tryd.prog 3 #[.string s] w fun e w' => e = .returned (.bool true) ∧ Below w.heap.size w w' := by
  have HA : Hid (∀ w, Calls Tryd.prog 8 #[] w fun e w' => e = .returned (.bool true) ∧ Below w.heap.size w w') := fun w => awake_calls
  have hs2 : s.size ≤ 9223372036854775807 := by unfold maxLen at hs; omega
  clear hs
  by_cases h1 : 4000 < s.size
  · have hd : decide (4000 < s.size) = true := decide_eq_true h1
    clear hT
    go_enter Tryd.func3, Tryd.ntmps3
    go_wp2_with fail
    go_ret
    exact ⟨by simp, Below.refl _ _⟩
  have hd : decide (4000 < s.size) = false := decide_eq_false h1
  obtain ⟨r, hr⟩ : ∃ r, valF s s.size 0 = r := ⟨_, rfl⟩
  have HV1 : Hid (Calls Tryd.prog 6 #[.string s] w fun e w' => e = .returned (.bool r) ∧ Below w.heap.size w w') := by
    have := valid_calls (s := s) (w := w) (by omega) hT
    rwa [hr] at this
  have HV2 : Hid (∀ W, Calls Tryd.prog 7 #[.string s] W fun e w' => e = .returned (.bool r) ∧ w' = W) := fun W => by
    have := refValid_calls (s := s) (w := W) (by omega)
    rwa [hr] at this
  clear hr hT
  go_enter Tryd.func3, Tryd.ntmps3
  go_wp2_with (first
    | (go_at_call 6; refine HV1.out.mono ?_; rintro e w1 ⟨rfl, hb1⟩)
    | (go_at_call 7; refine (HV2.out _).mono ?_; rintro e w2 ⟨rfl, rfl⟩)
    | (go_at_call 8; refine (HA.out _).mono ?_; rintro e w3 ⟨rfl, hb3⟩))
  go_ret
  exact ⟨by simp, hb1.trans (hb3.mono hb1.size)⟩
end Go.Proofs.YtnonbonegbdfpaaDoor
