/- spans.Sorted: what it computes. -/
import Derived.Test.YtnonbonegbdfpaaDoorSpSort
namespace Go.Proofs.YtnonbonegbdfpaaDoor
open Go Go.RowKit

/-- does edit i of a sorted list stand right? -/
def okAt (c : List Ed) (i : Nat) : Bool :=
  decide (0 ≤ (eAt c i).fr ∧ (eAt c i).fr ≤ (eAt c i).to) &&
  (decide (i = 0) || !((eAt c (i - 1)).p.toList == (eAt c i).p.toList) || !(decide ((eAt c i).fr < (eAt c (i - 1)).to) || (eAt c i).fr == (eAt c (i - 1)).fr))
def okAll (c : List Ed) : Bool := (List.range c.length).all (okAt c)
def sortd (l : List Ed) : List Ed := cpt (srt l)

def SortedRes (l : List Ed) (w : World) (e : Ending) (w' : World) : Prop :=
  ((okAll (sortd l) = true ∧ ∃ u, e = .returned (.tuple #[u, .int .i64 0]) ∧ w'.ownsRow w.heap.size 42 4 u (sortd l).length (flat (sortd l))) ∨
   (okAll (sortd l) = false ∧ e = .returned (.tuple #[.slice none 0 0, .int .i64 1]))) ∧ Below w.heap.size w w'

theorem okAll_pre {c : List Ed} (h : ∀ i, i < c.length → okAt c i = true) : okAll c = true := by
  unfold okAll; rw [List.all_eq_true]; intro i hi; exact h i (List.mem_range.1 hi)
theorem okAll_at {c : List Ed} {i : Nat} (hi : i < c.length) (h : okAt c i = false) : okAll c = false := by
  unfold okAll; rw [List.all_eq_false]; exact ⟨i, List.mem_range.2 hi, by rw [h]; simp⟩
theorem srt_len (l : List Ed) : (srt l).length = l.length := List.length_mergeSort _
theorem sortd_len (l : List Ed) : (sortd l).length ≤ l.length := by
  have := cptN_len (srt l) (srt l).length
  rw [srt_len] at this
  unfold sortd cpt
  rw [srt_len]
  exact this

set_option maxHeartbeats 4000000 in
set_option maxRecDepth 100000 in
theorem sorted_calls {l : List Ed} {v : Value} {w : World} {S : Nat → Prop} (hlim : l.length * 48 ≤ 140737488355328) (h : Row w S 4 v l.length (flat l)) (hS : Old S w) :
    Calls Tryd.prog 25 #[v] w (SortedRes l w) := by
  obtain ⟨A, cap, rfl, hlen⟩ := h.form
  have H := Lib.hid h
  have HS := Lib.hid hS
  have HLM := Lib.hid hlim
  clear h hS
  go_enter Tryd.func25, Tryd.ntmps25
  go_wp2_with fail
  refine (clone_edits w S _ _ _ H.out HS.out (flat_one _) HLM.out).mono ?_
  rintro e w1 ⟨v1, rfl, ho1, -, hb1⟩
  have HO1 := Lib.hid ho1
  have HW1 := Lib.hid hb1
  have hz1 := hb1.size
  obtain ⟨B1, b1, rfl⟩ := own_form ho1
  clear ho1 hb1
  go_wp2_with fail
  refine (sort_calls (base := w.heap.size) HLM.out HO1.out hz1).mono ?_
  rintro e w2 ⟨rfl, ho2, hb2⟩
  have HO2 := Lib.hid ho2
  have HW2 : Hid (Below w.heap.size w w2) := HW1.out.trans hb2
  have hz2 := HW2.out.size
  clear ho2 hb2 HO1
  go_wp2_with fail
  have hsl := srt_len l
  have HO2' : Hid (w2.ownsRow w.heap.size 42 4 (.slice B1 l.length b1) (srt l).length (flat (srt l))) := by unfold Hid; rw [hsl]; exact HO2.out
  refine (compact_calls (base := w.heap.size) (l := srt l) (by rw [hsl]; exact HLM.out) HO2'.out).mono ?_
  rintro e w3 ⟨u, rfl, ho3, -, -, hb3, hsz3⟩
  have HW3 : Hid (Below w.heap.size w w3) := HW2.out.trans hb3
  have hz3 := HW3.out.size
  obtain ⟨c, hc⟩ : ∃ c, sortd l = c := ⟨_, rfl⟩
  have hcl : c.length ≤ l.length := by rw [← hc]; exact sortd_len l
  have HC := Lib.hid hc
  rw [show cpt (srt l) = c from hc] at ho3
  have HO3 := Lib.hid ho3
  obtain ⟨B3, b3, rfl⟩ := own_form ho3
  have hcl2 : c.length ≤ 9223372036854775807 := by omega
  clear ho3 hb3 hc HO2 HO2' hsl
  have HRES : ∀ e W', ((okAll c = true ∧ ∃ u, e = .returned (.tuple #[u, .int .i64 0]) ∧ W'.ownsRow w.heap.size 42 4 u c.length (flat c)) ∨ (okAll c = false ∧ e = .returned (.tuple #[.slice none 0 0, .int .i64 1]))) ∧ Below w.heap.size w W' → SortedRes l w e W' := by
    intro e W' h
    unfold SortedRes
    rw [HC.out]; exact h
  have HR := Lib.hid HRES
  clear HRES
  go_wp2_with fail
  go_loopg [14] c.length (fun d i wr => ∃ (j : Nat), d = c.length - j ∧ j ≤ c.length ∧ i = .int .i64 j ∧ Hid (∀ i, i < j → okAt c i = true) ∧ Hid (Below w3.heap.size w3 wr))
  case atStart => exact ⟨0, by simp, by omega, rfl, fun i h => by omega, Below.refl _ _⟩
  case round =>
    obtain ⟨j, rfl, hj, rfl, HOKS, HBL⟩ := hrel
    have hzr := HBL.out.size
    have HOW : Hid (wr.ownsRow w.heap.size 42 4 (.slice B3 c.length b3) c.length (flat c)) := own_below HO3.out HBL.out
    have HBR : Hid (Below w.heap.size w wr) := HW3.out.trans (HBL.out.mono hz3)
    by_cases hlt : j < c.length
    · obtain ⟨g, cp, hv, -⟩ := HOW.out.form (by omega)
      cases hv
      have hgl := (HOW.out.lt g rfl).2
      obtain ⟨a0, a1, a2, a3⟩ := own_at4 HOW.out hlt rfl
      have HBX : Hid (Below w.heap.size w (wr.alloc (.cells #[.string c[j].p, .int .i64 c[j].fr, .int .i64 c[j].to, .string c[j].tx] 42))) := HBR.out.alloc (by omega) _
      have HBN : ∀ W, W = (wr.alloc (.cells #[.string c[j].p, .int .i64 c[j].fr, .int .i64 c[j].to, .string c[j].tx] 42)) → Hid (Below w3.heap.size w3 W) := fun W e => by subst e; exact HBL.out.alloc hzr _
      have hea : eAt c j = c[j] := eAt_at hlt
      by_cases h1 : c[j].fr < 0
      · have HOK : Hid (okAt c j = false) := by unfold Hid okAt; rw [hea, decide_eq_false (by omega), Bool.false_and]
        clear hea
        go_wp2_with fail
        go_ret2
        exact HR.out _ _ ⟨.inr ⟨okAll_at hlt HOK.out, rfl⟩, HBX.out⟩
      by_cases h2 : c[j].to < c[j].fr
      · have HOK : Hid (okAt c j = false) := by unfold Hid okAt; rw [hea, decide_eq_false (by omega), Bool.false_and]
        clear hea
        go_wp2_with fail
        go_ret2
        exact HR.out _ _ ⟨.inr ⟨okAll_at hlt HOK.out, rfl⟩, HBX.out⟩
      have hgood : okAt c j = (decide (j = 0) || !((eAt c (j - 1)).p.toList == c[j].p.toList) || !(decide (c[j].fr < (eAt c (j - 1)).to) || c[j].fr == (eAt c (j - 1)).fr)) := by
        unfold okAt; rw [hea, decide_eq_true (by omega), Bool.true_and]
      clear hea
      by_cases hj0 : j = 0
      · have HOK : Hid (okAt c j = true) := by unfold Hid; rw [hgood, decide_eq_true hj0]; rfl
        have hd : decide (0 < j) = false := decide_eq_false (by omega)
        clear hgood hj0
        have HOKN : Hid (∀ i, i < j + 1 → okAt c i = true) := fun i h => by
          by_cases e : i < j
          · exact HOKS.out i e
          · obtain rfl : i = j := by omega
            exact HOK.out
        clear HOKS
        go_wp2_with fail
        go_quiet (fail)
        go_wp2_with fail
        go_roundg (c.length - (j + 1))
        case measure => omega
        case rel => exact ⟨j + 1, rfl, by omega, by go_num, HOKN, below_drewN (HBN _ rfl).out _⟩
      obtain ⟨m, hm⟩ : ∃ m, j = m + 1 := ⟨j - 1, by omega⟩
      have hml : m < c.length := by omega
      obtain ⟨b0, b1', b2, b3'⟩ := own_at4 HOW.out hml rfl
      have hgood2 : okAt c j = (!(c[m].p.toList == c[j].p.toList) || !(decide (c[j].fr < c[m].to) || c[j].fr == c[m].fr)) := by
        rw [hgood, decide_eq_false hj0, Bool.false_or, show j - 1 = m from by omega, eAt_at hml]
      have hjm : (j : Int) - 1 = (m : Int) := by omega
      have hml2 : (m : Int) < (c.length : Int) := by omega
      have hd : decide (0 < j) = true := decide_eq_true (by omega)
      have HM := Lib.hid hm
      clear hgood hj0 hm
      cases hp : (c[m].p.toList == c[j].p.toList) with
      | false =>
        have HOK : Hid (okAt c j = true) := by unfold Hid; rw [hgood2, hp]; rfl
        clear hgood2
        have HOKN : Hid (∀ i, i < j + 1 → okAt c i = true) := fun i h => by
          by_cases e : i < j
          · exact HOKS.out i e
          · obtain rfl : i = j := by omega
            exact HOK.out
        clear HOKS
        go_wp2_with fail
        go_quiet (fail)
        go_wp2_with fail
        go_roundg (c.length - (j + 1))
        case measure => omega
        case rel => exact ⟨j + 1, rfl, by omega, by go_num, HOKN, below_drewN (HBN _ rfl).out _⟩
      | true =>
        by_cases h3 : c[j].fr < c[m].to
        · have HOK : Hid (okAt c j = false) := by unfold Hid; rw [hgood2, hp, decide_eq_true h3]; rfl
          have hd3 : decide (c[j].fr < c[m].to) = true := decide_eq_true h3
          clear hgood2 h3
          go_wp2_with fail
          go_quiet (fail)
          go_wp2_with fail
          go_ret2
          exact HR.out _ _ ⟨.inr ⟨okAll_at hlt HOK.out, rfl⟩, below_drewN HBX.out _⟩
        · cases h4 : (c[j].fr == c[m].fr) with
          | true =>
            have HOK : Hid (okAt c j = false) := by unfold Hid; rw [hgood2, hp, decide_eq_false h3, h4]; rfl
            have hd3 : decide (c[j].fr < c[m].to) = false := decide_eq_false h3
            clear hgood2 h3
            go_wp2_with fail
            go_quiet (fail)
            go_wp2_with fail
            go_ret2
            exact HR.out _ _ ⟨.inr ⟨okAll_at hlt HOK.out, rfl⟩, below_drewN HBX.out _⟩
          | false =>
            have HOK : Hid (okAt c j = true) := by unfold Hid; rw [hgood2, hp, decide_eq_false h3, h4]; rfl
            have hd3 : decide (c[j].fr < c[m].to) = false := decide_eq_false h3
            clear hgood2 h3
            have HOKN : Hid (∀ i, i < j + 1 → okAt c i = true) := fun i h => by
              by_cases e : i < j
              · exact HOKS.out i e
              · obtain rfl : i = j := by omega
                exact HOK.out
            clear HOKS
            go_wp2_with fail
            go_quiet (fail)
            go_wp2_with fail
            go_roundg (c.length - (j + 1))
            case measure => omega
            case rel => exact ⟨j + 1, rfl, by omega, by go_num, HOKN, below_drewN (HBN _ rfl).out _⟩
    · have hje : j = c.length := by omega
      have HOK : Hid (okAll c = true) := okAll_pre (by rw [← hje]; exact HOKS.out)
      have hge : ¬(j : Int) < (c.length : Int) := by omega
      clear HOKS
      go_wp2_with fail
      go_ret2
      exact HR.out _ _ ⟨.inl ⟨HOK.out, _, rfl, HOW.out⟩, HBR.out⟩
end Go.Proofs.YtnonbonegbdfpaaDoor
