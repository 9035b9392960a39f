/- types.World.circle. -/
import Derived.Test.YtanhdklaponekaaMtH
namespace Go.Proofs.Ytanhdklaponekaa
open Go Go.RowKit

def circP (L : List Nd) (name : ByteArray) (n : Nat) (r : Bool) : Prop := ∃ met', holdsP L name n (nameT name) [] = some (r, met') ∧ met'.length ≤ 1000000000
theorem nameT_cells (nm : ByteArray) (w : World) (S : Nat → Prop) : TyR w S (nameT nm) [.int .i64 8, .string nm, .int .i64 0, .bool false, .slice none 0 0, .slice none 0 0, .slice none 0 0] := by
  simp only [nameT, TyR]
  exact ⟨_, _, _, [], rfl, Row.nil_, Row.nil_, Row.nil_, by simp [TysR]⟩
theorem nameT_ok {nm : ByteArray} (h : nm.size ≤ Lim) : (nameT nm).ok := by
  simp only [nameT, T.ok]
  exact ⟨by unfold i64ok; omega, by unfold i64ok; omega, h, by simp, by simp [Lim], by simp [Lim], by simp [Lim], by simp [T.okL]⟩
set_option maxHeartbeats 4000000 in
set_option maxRecDepth 100000 in
theorem circle_calls {L : List Nd} {name : ByteArray} {n g : Nat} {r : Bool} {w : World} {Sw : Nat → Prop} (h : WC w Sw g L) (hn : name.size ≤ Lim) (hr : circP L name n r) :
    Calls Try.prog 63 #[.pointer (some ⟨g, 0, none⟩), .string name] w fun e w' => e = .returned (.bool r) ∧ Below w.heap.size w w' := by
  obtain ⟨met', hr1, hr2⟩ := hr
  have H := Lib.hid h
  have HN := Lib.hid hn
  have HR1 := Lib.hid hr1
  have HR2 := Lib.hid hr2
  have hmm := mm_int
  have hmf : ∀ (fn : Fn) (first cap : Array Value) (w : World), (Instr.makeFunc fn first cap).run Try.prog w = .ok (.func fn first cap) w := fun _ _ _ _ => rfl
  clear h hn hr1 hr2
  go_enter Try.func63, Try.ntmps63
  go_wp2_with fail
  obtain ⟨w4, hw4⟩ : ∃ w4, w4 = (((((w.alloc (.cells #[.pointer (some ⟨g, 0, none⟩)] 40)).alloc (.cells #[.string name] 9)).alloc (.map #[] 0)).alloc (.cells #[.map (some (w.heap.size + 1 + 1))] 101)).alloc (.cells #[(.func (.func 77) #[] #[.pointer (some ⟨w.heap.size + 1 + 1 + 1 + 1, 0, none⟩), .pointer (some ⟨w.heap.size + 1, 0, none⟩), .pointer (some ⟨w.heap.size + 1 + 1 + 1, 0, none⟩), .pointer (some ⟨w.heap.size, 0, none⟩)])] 28)) := ⟨_, rfl⟩
  rw [← hw4]
  have hz4 : w4.heap.size = w.heap.size + 5 := by rw [hw4]; simp
  have HB4 : Hid (Below w.heap.size w w4) := by
    rw [hw4]
    exact ((((below_al _ _).alloc (by simp) _).alloc (by simp; omega) _).alloc (by simp; omega) _).alloc (by simp; omega) _
  have hB0 : Blk w4 w.heap.size 40 #[.pointer (some ⟨g, 0, none⟩)] := by
    rw [hw4]; exact ((((Blk.new w _ _).alloc _).alloc _).alloc _).alloc _
  have hB1 : Blk w4 (w.heap.size + 1) 9 #[.string name] := by
    have := (((Blk.new (w.alloc (.cells #[.pointer (some ⟨g, 0, none⟩)] 40)) 9 #[.string name]).alloc (.map #[] 0)).alloc (.cells #[.map (some (w.heap.size + 1 + 1))] 101)).alloc (.cells #[(.func (.func 77) #[] #[.pointer (some ⟨w.heap.size + 1 + 1 + 1 + 1, 0, none⟩), .pointer (some ⟨w.heap.size + 1, 0, none⟩), .pointer (some ⟨w.heap.size + 1 + 1 + 1, 0, none⟩), .pointer (some ⟨w.heap.size, 0, none⟩)])] 28)
    rw [hw4]; simpa using this
  have hB3 : Blk w4 (w.heap.size + 1 + 1 + 1) 101 #[.map (some (w.heap.size + 1 + 1))] := by
    have := (Blk.new (((w.alloc (.cells #[.pointer (some ⟨g, 0, none⟩)] 40)).alloc (.cells #[.string name] 9)).alloc (.map #[] 0)) 101 #[.map (some (w.heap.size + 1 + 1))]).alloc (.cells #[(.func (.func 77) #[] #[.pointer (some ⟨w.heap.size + 1 + 1 + 1 + 1, 0, none⟩), .pointer (some ⟨w.heap.size + 1, 0, none⟩), .pointer (some ⟨w.heap.size + 1 + 1 + 1, 0, none⟩), .pointer (some ⟨w.heap.size, 0, none⟩)])] 28)
    rw [hw4]; simpa using this
  have hB4 : Blk w4 (w.heap.size + 1 + 1 + 1 + 1) 28 #[(.func (.func 77) #[] #[.pointer (some ⟨w.heap.size + 1 + 1 + 1 + 1, 0, none⟩), .pointer (some ⟨w.heap.size + 1, 0, none⟩), .pointer (some ⟨w.heap.size + 1 + 1 + 1, 0, none⟩), .pointer (some ⟨w.heap.size, 0, none⟩)])] := by
    have := Blk.new ((((w.alloc (.cells #[.pointer (some ⟨g, 0, none⟩)] 40)).alloc (.cells #[.string name] 9)).alloc (.map #[] 0)).alloc (.cells #[.map (some (w.heap.size + 1 + 1))] 101)) 28 #[(.func (.func 77) #[] #[.pointer (some ⟨w.heap.size + 1 + 1 + 1 + 1, 0, none⟩), .pointer (some ⟨w.heap.size + 1, 0, none⟩), .pointer (some ⟨w.heap.size + 1 + 1 + 1, 0, none⟩), .pointer (some ⟨w.heap.size, 0, none⟩)])]
    rw [hw4]; simpa using this
  have HM : Hid (MetR w4 (w.heap.size + 1 + 1) []) := by
    have h1 : MetR (((w.alloc (.cells #[.pointer (some ⟨g, 0, none⟩)] 40)).alloc (.cells #[.string name] 9)).alloc (.map #[] 0)) (w.heap.size + 1 + 1) [] := by have := metR_made ((w.alloc (.cells #[.pointer (some ⟨g, 0, none⟩)] 40)).alloc (.cells #[.string name] 9)); simpa using this
    have h2 := h1.same (Below.heap_alloc _ (.cells #[.map (some (w.heap.size + 1 + 1))] 101) _ h1.lt)
    have h3 := h2.same (Below.heap_alloc _ (.cells #[(.func (.func 77) #[] #[.pointer (some ⟨w.heap.size + 1 + 1 + 1 + 1, 0, none⟩), .pointer (some ⟨w.heap.size + 1, 0, none⟩), .pointer (some ⟨w.heap.size + 1 + 1 + 1, 0, none⟩), .pointer (some ⟨w.heap.size, 0, none⟩)])] 28) _ h2.lt)
    rw [hw4]; exact h3
  have HEW : Hid (HE w4 Sw g L (w.heap.size + 1 + 1 + 1 + 1) (w.heap.size + 1) (w.heap.size + 1 + 1 + 1) w.heap.size (w.heap.size + 1 + 1) name) :=
    ⟨H.out.below HB4.out, fun b hb => by have := H.out.old b hb; omega, by omega, by omega, by omega, by omega, hB4.cell 0, hB1.cell 0, hB3.cell 0, hB0.cell 0, HN.out⟩
  have hc1 := HEW.out.hc
  have hc2 := HEW.out.nc
  have hl1 : w.heap.size + 1 < w4.heap.size := by omega
  have hl2 : w.heap.size + 1 + 1 + 1 + 1 < w4.heap.size := by omega
  clear hw4 hB0 hB1 hB3 hB4 hmm
  go_region_with
    (first
      | (go_at_call 20
         refine name_cells.mono ?_
         rintro e w5 ⟨rfl, hb5⟩
         have hz5 := hb5.size
         have HB5 : Hid (Below w4.heap.size w4 w5) := ((Below.refl _ _).drew).trans hb5
         have hc5 : w5.cell? ⟨w.heap.size + 1 + 1 + 1 + 1, 0, none⟩ = some (.func (.func 77) #[] #[.pointer (some ⟨w.heap.size + 1 + 1 + 1 + 1, 0, none⟩), .pointer (some ⟨w.heap.size + 1, 0, none⟩), .pointer (some ⟨w.heap.size + 1 + 1 + 1, 0, none⟩), .pointer (some ⟨w.heap.size, 0, none⟩)]) := (cell_below HB5.out hl2).trans hc1
         have hl5 : w.heap.size + 1 + 1 + 1 + 1 < w5.heap.size := Nat.lt_of_lt_of_le hl2 HB5.out.size
         have HE5 := Lib.hid (HEW.out.but (But.of_below HB5.out))
         have HM5 := Lib.hid (HM.out.same (HB5.out.block _ HM.out.lt))
         clear hb5)
      | (go_at_call 77
         refine (holds_at L name n (nameT name) [] r met' HR1.out HR2.out w5 (fun _ => False) Sw g (w.heap.size + 1 + 1 + 1 + 1) (w.heap.size + 1) (w.heap.size + 1 + 1 + 1) w.heap.size (w.heap.size + 1 + 1) [.int .i64 8, .string name, .int .i64 0, .bool false, .slice none 0 0, .slice none 0 0, .slice none 0 0] HE5.out HM5.out (nameT_cells _ _ _) (fun _ hb => hb.elim) (nameT_ok HN.out)).mono ?_
         rintro e w6 ⟨rfl, -, hb6⟩
         have HFIN : Hid (Below w.heap.size w w6) := (HB4.out.trans (HB5.out.mono (by omega))).trans (hb6.below (fun i _ e => by omega) (by have := HB5.out.size; omega))
         clear hb6)
      | fail)
  all_goals
    go_wp2_with fail
    go_ret
    exact ⟨rfl, HFIN.out⟩
end Go.Proofs.Ytanhdklaponekaa
