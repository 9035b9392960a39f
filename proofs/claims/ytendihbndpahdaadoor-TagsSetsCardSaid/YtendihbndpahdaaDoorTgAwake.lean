/- tags.Rule's Tags, Same at what recastlaw6 asks of them; recastlaw6.awake. -/
import Derived.Test.YtendihbndpahdaaDoorTgTags
import Derived.Test.YtendihbndpahdaaDoorTgRead
import Derived.Test.YtendihbndpahdaaDoorTgTexts
import Derived.Test.YtendihbndpahdaaDoorTgFew
import Derived.Test.YtendihbndpahdaaDoorTgSets
namespace Go.Proofs.YtendihbndpahdaaDoor
open Go Go.RowKit Go.Sort Go.Lib

def TagsAB (w : World) (e : Ending) (w' : World) : Prop := ∃ A c, e = .returned (.slice A 2 c) ∧ Row w' (fun b => b < w'.heap.size) 1 (.slice A 2 c) 2 [.string ⟨#[97]⟩, .string ⟨#[98]⟩] ∧ Below w.heap.size w w'
theorem cs_ab : cs [[97], [98]] = [[97], [98]] := cs_self (by unfold Asc; decide)
theorem cs_nil : cs [] = [] := cs_self List.Pairwise.nil

set_option maxRecDepth 100000 in
set_option maxHeartbeats 4000000 in
theorem rtags_r {w : World} {r : Nat} (hr : Blk w r 32 #[.iface 56 (.agg #[.bool false, .iface 54 (.string ⟨#[97]⟩), .iface 51 (.agg #[.iface 54 (.string ⟨#[98]⟩)])])]) :
    Calls Tryd.prog 11 #[.pointer (some ⟨r, 0, none⟩)] w (TagsAB w) := by
  have HRES : ∀ e W', TagsAB w e W' → TagsAB w e W' := fun _ _ h => h
  have HH := Lib.hid HRES
  have HR := Lib.hid hr
  clear hr HRES
  go_enter Tryd.func11, Tryd.ntmps11
  go_wp2_with fail
  refine (term_r HR.out).mono ?_
  rintro e w1 ⟨rfl, hw⟩
  subst w1
  go_wp2_with fail
  refine both_tags.mono ?_
  rintro e w1 ⟨v, rfl, ho, hb⟩
  have HO : Hid (Row w1 (fun _ => True) 1 v 2 ([[97], [98]].map encStr)) := Row.of_own ho (fun _ _ => trivial)
  have HB := Lib.hid hb
  clear ho hb
  go_wp2_with fail
  refine (sorted_calls (l := [[97], [98]]) (by decide) HO.out).mono ?_
  rintro e w2 ⟨u, rfl, ho2, hb2⟩
  rw [cs_ab] at ho2
  have HB2 : Hid (Below w.heap.size w w2) := HB.out.trans (hb2.mono HB.out.size)
  have HO2 : Hid (Row w2 (fun b => b < w2.heap.size) 1 u 2 [.string ⟨#[97]⟩, .string ⟨#[98]⟩]) := Row.of_own ho2 (fun b hb => (ho2.lt b hb).2)
  obtain ⟨A, c, rfl⟩ := own_form ho2
  clear ho2 hb2
  go_wp2_with fail
  go_ret
  exact HH.out _ _ ⟨A, c, rfl, HO2.out, HB2.out⟩

def TagsNo (w : World) (e : Ending) (w' : World) : Prop := ∃ A c, e = .returned (.slice A 0 c) ∧ Below w.heap.size w w'
set_option maxRecDepth 100000 in
set_option maxHeartbeats 4000000 in
theorem rtags_nil {w : World} : Calls Tryd.prog 11 #[.pointer none] w (TagsNo w) := by
  have HRES : ∀ e W', TagsNo w e W' → TagsNo w e W' := fun _ _ h => h
  have HH := Lib.hid HRES
  clear HRES
  go_enter Tryd.func11, Tryd.ntmps11
  go_wp2_with fail
  refine term_nil.mono ?_
  rintro e w1 ⟨rfl, hw⟩
  subst w1
  go_wp2_with fail
  refine always_tags.mono ?_
  rintro e w1 ⟨rfl, hb⟩
  have HB := Lib.hid hb
  clear hb
  go_wp2_with fail
  refine (sorted_calls (l := []) (S := fun _ => True) (by decide) Row.nil_).mono ?_
  rintro e w2 ⟨u, rfl, ho2, hb2⟩
  rw [cs_nil] at ho2
  have HB2 : Hid (Below w.heap.size w w2) := HB.out.trans (hb2.mono HB.out.size)
  obtain ⟨A, c, rfl⟩ := own_form ho2
  clear ho2 hb2
  go_wp2_with fail
  go_ret
  exact HH.out _ _ ⟨A, c, rfl, HB2.out⟩

theorem setsOf_nil : setsOf [] = [[]] := by unfold setsOf; rw [cs_nil]; rfl
set_option maxRecDepth 100000 in
set_option maxHeartbeats 4000000 in
/-- none and an empty one hold for the same sets of no tags -/
theorem same_z {w : World} {r : Nat} (hr : Blk w r 32 #[.nilIface]) :
    Calls Tryd.prog 13 #[.pointer none, .pointer (some ⟨r, 0, none⟩), .slice none 0 0] w fun e w' => e = .returned (.bool true) ∧ Below w.heap.size w w' := by
  have HR := Lib.hid hr
  clear hr
  go_enter Tryd.func13, Tryd.ntmps13
  go_wp2_with fail
  refine (sets_calls (l := []) (S := fun _ => True) (by decide) Row.nil_).mono ?_
  rintro e w1 ⟨u, vs, rfl, ho, hs, hb⟩
  rw [setsOf_nil] at ho hs
  obtain ⟨v, vs', rfl, hv, hvs⟩ := hs
  have hvs' : vs' = [] := hvs
  subst hvs'
  obtain ⟨g, c, rfl, -⟩ := ho.form (by decide)
  have h0 := ho.cellAt 0 (by decide)
  simp at h0
  have HR1 : Hid (Blk w1 r 32 #[.nilIface]) := HR.out.below hb HR.out.lt
  have HB := Lib.hid hb
  clear ho hv hvs hb
  go_wp2_with fail
  refine wp_loop_rounds 2 ?_
  rw [rounds_succ]
  go_wp2_with fail
  refine holds_nil.mono ?_
  rintro e w2 ⟨rfl, hb2⟩
  have HB2 : Hid (Below w.heap.size w w2) := HB.out.trans (hb2.mono HB.out.size)
  have HR2 : Hid (Blk w2 r 32 #[.nilIface]) := HR1.out.below hb2 HR1.out.lt
  clear hb2
  go_wp2_with fail
  refine (holds_z HR2.out).mono ?_
  rintro e w3 ⟨rfl, hb3⟩
  have HB3 : Hid (Below w.heap.size w w3) := HB2.out.trans (hb3.mono HB2.out.size)
  clear hb3 h0
  go_wp2_with fail
  rw [rounds_succ]
  go_wp2_with fail
  go_ret
  exact ⟨by first | rfl | simp, HB3.out⟩

set_option maxHeartbeats 8000000 in
set_option maxRecDepth 100000 in
theorem awake_calls {w : World} : Calls Tryd.prog 6 #[] w fun e w' => e = .returned (.bool true) ∧ Below w.heap.size w w' := by
  go_enter Tryd.func6, Tryd.ntmps6
  go_wp2_with fail
  refine read_calls.mono ?_
  rintro e w1 ⟨r, rfl, hr, hb⟩
  have HR1 := Lib.hid hr
  have HB1 := Lib.hid hb
  clear hr hb
  go_wp2_with fail
  refine (holds_r (l := [⟨#[97]⟩]) (HR1.out.alloc _) (by decide) (Blk.new w1 9 #[.string ⟨#[97]⟩])).mono ?_
  rintro e w2 ⟨rfl, hb2⟩
  have HB2 : Hid (Below w.heap.size w w2) := (HB1.out.alloc HB1.out.size _).trans (hb2.mono (by have := HB1.out.size; simp; omega))
  have HR2 : Hid (Blk w2 r 32 _) := (HR1.out.alloc _).below hb2 (HR1.out.alloc _).lt
  clear hb2 HR1
  have hs1 : (hasS [⟨#[97]⟩] ⟨#[97]⟩ && !hasS [⟨#[97]⟩] ⟨#[98]⟩) = true := by decide
  rw [hs1]
  clear hs1
  go_wp2_with fail
  refine (holds_r (l := [⟨#[97]⟩, ⟨#[98]⟩]) (HR2.out.alloc _) (by decide) (Blk.new w2 9 #[.string ⟨#[97]⟩, .string ⟨#[98]⟩])).mono ?_
  rintro e w3 ⟨rfl, hb3⟩
  have HB3 : Hid (Below w.heap.size w w3) := (HB2.out.alloc HB2.out.size _).trans (hb3.mono (by have := HB2.out.size; simp; omega))
  have HR3 : Hid (Blk w3 r 32 _) := (HR2.out.alloc _).below hb3 (HR2.out.alloc _).lt
  clear hb3 HR2
  have hs1 : (hasS [⟨#[97]⟩, ⟨#[98]⟩] ⟨#[97]⟩ && !hasS [⟨#[97]⟩, ⟨#[98]⟩] ⟨#[98]⟩) = false := by decide
  rw [hs1]
  clear hs1
  go_wp2_with fail
  refine (rtags_r HR3.out).mono ?_
  rintro e w4 ⟨A, c, rfl, ho, hb4⟩
  have HO4 := Lib.hid ho
  have HB4 : Hid (Below w.heap.size w w4) := HB3.out.trans (hb4.mono HB3.out.size)
  clear ho hb4 HR3
  go_wp2_with fail
  refine (texts_calls (S' := fun _ => True) (l := [.string ⟨#[97]⟩, .string ⟨#[98]⟩]) (fun u hu => by simp at hu; rcases hu with rfl | rfl <;> exact ⟨_, rfl⟩)
    (HO4.out.keep ((SameOn.refl _ w4).alloc (fun b hb => hb) _)) (row_blk (cs := [.string ⟨#[97]⟩, .string ⟨#[98]⟩]) (Blk.new w4 9 _) rfl (by decide) trivial)).mono ?_
  rintro e w5 ⟨rfl, q, rfl⟩
  have HB5 : Hid (Below w.heap.size w ((w4.alloc (.cells #[.string ⟨#[97]⟩, .string ⟨#[98]⟩] 9)).drewN q)) := below_drewN (HB4.out.alloc HB4.out.size _) q
  clear HO4
  go_wp2_with fail
  go_ret
  exact ⟨by first | rfl | simp, HB5.out⟩
end Go.Proofs.YtendihbndpahdaaDoor
