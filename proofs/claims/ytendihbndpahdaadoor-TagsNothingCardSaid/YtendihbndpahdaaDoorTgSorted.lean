/- tags.sorted: what it computes: each once, rising. -/
import Derived.Test.YtendihbndpahdaaDoorTgPieces
import Derived.Test.YtendihbndpahdaaDoorTgLaw
import Derived.Sort.OwnSorted
import Derived.Lib.RowBridge
namespace Go.Proofs.YtendihbndpahdaaDoor
open Go Go.RowKit Go.Sort Go.Lib

/-- the texts as lists of bytes -/
def bys (l : List ByteArray) : List (List UInt8) := l.map (·.data.toList)
theorem bys_enc (l : List ByteArray) : (bys l).map encStr = l.map Value.string := by
  unfold bys
  rw [List.map_map]
  rfl
def SortedRes (l : List (List UInt8)) (w : World) (e : Ending) (w' : World) : Prop :=
  ∃ u, e = .returned u ∧ w'.ownsRow w.heap.size 9 1 u (cs l).length ((cs l).map encStr) ∧ Below w.heap.size w w'

theorem clone_strs {w : World} {S : Nat → Prop} {v : Value} {l : List (List UInt8)} (hlim : l.length * 16 ≤ 140737488355328) (h : Row w S 1 v l.length (l.map encStr)) :
    Calls Tryd.prog 27 #[v] w fun e w' => ∃ v', e = .returned v' ∧ w'.ownsRow w.heap.size 9 1 v' l.length (l.map encStr) ∧ Below w.heap.size w w' := by
  obtain ⟨h1, A0, cap, rfl, h2, h3, h0, h4⟩ := h
  rcases A0 with _ | ad
  · obtain rfl : cap = 0 := h0 rfl
    obtain rfl : l = [] := List.eq_nil_of_length_eq_zero (by omega)
    refine (Tryd.slices_Clone_string_nil _ _ w).mono ?_
    rintro e w' ⟨rfl, rfl⟩
    exact ⟨_, rfl, World.ownsRow_nil _ _ _ _, Below.refl _ _⟩
  · by_cases hz : l.length = 0
    · obtain rfl : l = [] := List.eq_nil_of_length_eq_zero hz
      refine (Tryd.slices_Clone_string_zero ad cap w).mono ?_
      rintro e w' ⟨v', rfl, ho, -, hb⟩
      exact ⟨v', rfl, ho, hb⟩
    · obtain ⟨b, o, hb, -, hc⟩ := h4 (by omega)
      injection hb with hb
      subst hb
      have hh := Tryd.slices_Clone_string b o l.length cap (l.map fun x => ⟨x.toArray⟩) w (by simp) hlim (fun j hj => by
        have hj' : j < l.length := by simpa using hj
        rw [hc j (encStr l[j]) (by simp [hj'])]
        simp [encStr, List.getD, hj'])
      refine hh.mono ?_
      rintro e w' ⟨v', rfl, ho, -, hb⟩
      refine ⟨v', rfl, ?_, hb⟩
      have e1 : ((l.map fun x => (⟨x.toArray⟩ : ByteArray)).take l.length).map Value.string = l.map encStr := by
        rw [List.take_of_length_le (by simp), List.map_map]; rfl
      rw [e1] at ho
      exact ho

/-- the sort of a row of its own -/
theorem sort_strs {w : World} {base : Nat} {v : Value} {l : List (List UInt8)} (hlim : l.length * 16 ≤ 140737488355328) (hB : base ≤ w.heap.size) (h : w.ownsRow base 9 1 v l.length (l.map encStr)) :
    Calls Tryd.prog 28 #[v] w fun e w' => e = .returned (.tuple #[]) ∧ w'.ownsRow base 9 1 v l.length ((l.mergeSort fun x y => decide (x ≤ y)).map encStr) ∧ Below base w w' := by
  by_cases hz : l.length = 0
  · obtain rfl : l = [] := List.eq_nil_of_length_eq_zero hz
    obtain ⟨A, c, rfl⟩ := own_form h
    refine (Tryd.slices_Sort_string_none A c w).mono ?_
    rintro e w' ⟨rfl, rfl⟩
    exact ⟨rfl, by simpa using h, Below.refl _ _⟩
  · rcases h.2 with ⟨_, hn⟩ | ⟨g, cap, cur, rfl, hbase, hb, h1, h2, h3, h4⟩
    · exact absurd (by simpa using hn) hz
    · have hg : g < w.heap.size := (Array.getElem?_eq_some_iff.1 hb).1
      refine (Tryd.slices_Sort_string g 0 cap l w (holds_of_block hb (by simpa using h4)) hg (by omega)).mono ?_
      rintro e w' ⟨rfl, n, os, rfl⟩
      exact ⟨rfl, ownsRow_sorted (by simp) hbase hb h1 h2 h3, (Below.refl base w).grown (grownBy_sorted _) hB (fun k hk => by injection hk with hk; omega)⟩

/-- Compact of a row of its own -/
theorem compact_strs {w : World} {base : Nat} {v : Value} {l : List (List UInt8)} (hlim : l.length * 16 ≤ 140737488355328) (hB : base ≤ w.heap.size) (h : w.ownsRow base 9 1 v l.length (l.map encStr)) :
    Calls Tryd.prog 29 #[v] w fun e w' => ∃ u, e = .returned u ∧ w'.ownsRow base 9 1 u (Lib.compact l).length ((Lib.compact l).map encStr) ∧ Below base w w' := by
  by_cases hz : l.length = 0
  · obtain rfl : l = [] := List.eq_nil_of_length_eq_zero hz
    obtain ⟨A, c, rfl⟩ := own_form h
    refine (Tryd.slices_Compact_string_empty A c w).mono ?_
    rintro e w' ⟨rfl, rfl⟩
    exact ⟨_, rfl, h, Below.refl _ _⟩
  · rcases h.2 with ⟨_, hn⟩ | ⟨g, cap, cur, rfl, hbase, hb, h1, h2, h3, h4⟩
    · exact absurd (by simpa using hn) hz
    · refine (Tryd.slices_Compact_string g 0 cap l w (holds_of_block hb (by simpa using h4)) (by omega) h1).mono ?_
      rintro e w' ⟨rfl, q, rfl⟩
      have hcl := compact_length_le l
      have hts : (Lib.compact l ++ List.replicate (l.length - (Lib.compact l).length) ([] : List UInt8)).length = l.length := by simp; omega
      have hb' := heap_sorted (n := q) (os := #[]) (Lib.compact l ++ List.replicate (l.length - (Lib.compact l).length) ([] : List UInt8)).toArray hb
      have ht := take_putCells cur (Lib.compact l ++ List.replicate (l.length - (Lib.compact l).length) ([] : List UInt8)) (by omega)
      have hgr := grownBy_sorted (w := w) (g := g) (n := q) (os := #[]) (Lib.compact l ++ List.replicate (l.length - (Lib.compact l).length) ([] : List UInt8)).toArray
      rw [grow_empty] at hb' hgr
      refine ⟨_, rfl, ⟨by simp, .inr ⟨g, cap, _, rfl, hbase, hb', by omega, h2, by simp [putCells, h3], ?_⟩⟩, (Below.refl base w).grown hgr hB (fun k hk => by injection hk with hk; omega)⟩
      have := congrArg (List.take (Lib.compact l).length) ht
      rw [List.take_take, Nat.min_eq_left (by omega), List.map_append, List.take_left' (by simp)] at this
      rw [Nat.mul_one]
      exact this

set_option maxHeartbeats 4000000 in
theorem sorted_calls {w : World} {S : Nat → Prop} {v : Value} {l : List (List UInt8)} (hlim : l.length * 16 ≤ 140737488355328) (h : Row w S 1 v l.length (l.map encStr)) :
    Calls Tryd.prog 15 #[v] w (SortedRes l w) := by
  obtain ⟨A, cap, rfl, hlen⟩ := h.form
  have H := Lib.hid h
  have HLM := Lib.hid hlim
  clear h hlim
  go_enter Tryd.func15, Tryd.ntmps15
  go_wp2_with fail
  refine (clone_strs HLM.out H.out).mono ?_
  rintro e w1 ⟨v1, rfl, ho1, hb1⟩
  have HO1 := Lib.hid ho1
  have HW1 := Lib.hid hb1
  obtain ⟨B1, b1, rfl⟩ := own_form ho1
  clear ho1 hb1
  go_wp2_with fail
  refine (sort_strs (base := w.heap.size) HLM.out HW1.out.size HO1.out).mono ?_
  rintro e w2 ⟨rfl, ho2, hb2⟩
  have HO2 : Hid (w2.ownsRow w.heap.size 9 1 (.slice B1 l.length b1) (l.mergeSort fun x y => decide (x ≤ y)).length ((l.mergeSort fun x y => decide (x ≤ y)).map encStr)) := by unfold Hid; rw [List.length_mergeSort]; exact ho2
  have HW2 : Hid (Below w.heap.size w w2) := HW1.out.trans hb2
  clear ho2 hb2 HO1
  go_wp2_with fail
  have hc := compact_strs (base := w.heap.size) (by rw [List.length_mergeSort]; exact HLM.out) HW2.out.size HO2.out
  refine hc.mono ?_
  rintro e w3 ⟨u, rfl, ho3, hb3⟩
  have HW3 : Hid (Below w.heap.size w w3) := HW2.out.trans hb3
  have HO3 : Hid (w3.ownsRow w.heap.size 9 1 u (cs l).length ((cs l).map encStr)) := ho3
  clear ho3 hb3 HO2 hc
  go_wp2_with fail
  go_ret
  exact ⟨u, rfl, HO3.out, HW3.out⟩
end Go.Proofs.YtendihbndpahdaaDoor
