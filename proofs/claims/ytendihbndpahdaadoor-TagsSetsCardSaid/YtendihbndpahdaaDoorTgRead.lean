/- tags.Read at recastlaw6.awake's source. -/
import Derived.Test.YtendihbndpahdaaDoorTgPc
import Derived.Test.YtendihbndpahdaaDoorTgCut
import Derived.Test.YtendihbndpahdaaDoorTgOr
import Derived.Laws.EntriesVeiled
namespace Go.Proofs.YtendihbndpahdaaDoor
open Go Go.RowKit

theorem own_str4 {w : World} {base : Nat} {v : Value} {a b c d : ByteArray} (h : w.ownsRow base 9 1 v 4 [.string a, .string b, .string c, .string d]) :
    ∃ g cap, v = .slice (some ⟨g, 0, none⟩) (3 + 1 : Nat) (cap + 3 + 1 : Nat) ∧ base ≤ g ∧ g < w.heap.size ∧ w.cell? ⟨g, 0, none⟩ = some (.string a) ∧ w.cell? ⟨g, 1, none⟩ = some (.string b) ∧ w.cell? ⟨g, 2, none⟩ = some (.string c) ∧ w.cell? ⟨g, 3, none⟩ = some (.string d) := by
  rcases h.2 with ⟨rfl, h0⟩ | ⟨g, cap, cur, rfl, hg, hb, hc, hm, hs, ht⟩
  · cases h0
  · have hB : Blk w g 9 cur := hb
    have hl : 4 ≤ cur.toList.length := by
      have := congrArg List.length ht
      simp at this ⊢; omega
    have hk : ∀ i, i < 4 → cur[i]? = [Value.string a, .string b, .string c, .string d][i]? := by
      intro i hi
      rw [← ht, List.getElem?_take_of_lt (by omega)]
      simp
    refine ⟨g, cap - 4, ?_, hg, hB.lt, ?_, ?_, ?_, ?_⟩
    · congr 1; omega
    · rw [hB.cell, hk 0 (by omega)]; rfl
    · rw [hB.cell, hk 1 (by omega)]; rfl
    · rw [hB.cell, hk 2 (by omega)]; rfl
    · rw [hB.cell, hk 3 (by omega)]; rfl

theorem five_blks (w : World) (t1 t2 t3 t4 t5 : TypeId) (c1 c2 c3 c4 c5 : Array Value) (X : World) (hX : (((((w.alloc (.cells c1 t1)).alloc (.cells c2 t2)).alloc (.cells c3 t3)).alloc (.cells c4 t4)).alloc (.cells c5 t5)) = X) :
    Blk X w.heap.size t1 c1 ∧ Blk X (w.heap.size + 1) t2 c2 ∧ Blk X (w.heap.size + 1 + 1) t3 c3 ∧ Blk X (w.heap.size + 1 + 1 + 1) t4 c4 ∧ Blk X (w.heap.size + 1 + 1 + 1 + 1) t5 c5 ∧ Below w.heap.size w X := by
  subst hX
  have s1 : (w.alloc (.cells c1 t1)).heap.size = w.heap.size + 1 := World.size_alloc ..
  have s2 : ((w.alloc (.cells c1 t1)).alloc (.cells c2 t2)).heap.size = w.heap.size + 1 + 1 := by rw [World.size_alloc, s1]
  have s3 : (((w.alloc (.cells c1 t1)).alloc (.cells c2 t2)).alloc (.cells c3 t3)).heap.size = w.heap.size + 1 + 1 + 1 := by rw [World.size_alloc, s2]
  have s4 : ((((w.alloc (.cells c1 t1)).alloc (.cells c2 t2)).alloc (.cells c3 t3)).alloc (.cells c4 t4)).heap.size = w.heap.size + 1 + 1 + 1 + 1 := by rw [World.size_alloc, s3]
  refine ⟨((((Blk.new w t1 c1).alloc _).alloc _).alloc _).alloc _, ?_, ?_, ?_, ?_, ?_⟩
  · rw [← s1]; exact (((Blk.new _ t2 c2).alloc _).alloc _).alloc _
  · rw [← s2]; exact ((Blk.new _ t3 c3).alloc _).alloc _
  · rw [← s3]; exact (Blk.new _ t4 c4).alloc _
  · rw [← s4]; exact Blk.new _ t5 c5
  · exact (((((Below.refl _ _).alloc (Nat.le_refl _) _).alloc (by omega) _).alloc (by omega) _).alloc (by omega) _).alloc (by omega) _

set_option maxRecDepth 100000 in
set_option maxHeartbeats 8000000 in
theorem read_calls {w : World} : Calls Tryd.prog 14 #[.string ⟨#[47, 47, 98, 117, 105, 108, 100, 32, 97, 32, 38, 38, 32, 33, 98, 10]⟩] w fun e w' =>
    ∃ r, e = .returned (.tuple #[.pointer (some ⟨r, 0, none⟩), .int .i64 0]) ∧ Blk w' r 32 #[.iface 56 (.agg #[.bool false, .iface 54 (.string ⟨#[97]⟩), .iface 51 (.agg #[.iface 54 (.string ⟨#[98]⟩)])])] ∧ Below w.heap.size w w' := by
  have hmf : ∀ (fn : Fn) (first cap : Array Value) (w : World), (Instr.makeFunc fn first cap).run Tryd.prog w = .ok (.func fn first cap) w := fun _ _ _ _ => rfl
  have hE : (⟨#[47, 47, 98, 117, 105, 108, 100, 32, 97, 32, 38, 38, 32, 33, 98, 10]⟩ : ByteArray).extract 8 16 = ⟨#[97, 32, 38, 38, 32, 33, 98, 10]⟩ := by rfl
  go_enter Tryd.func14, Tryd.ntmps14
  go_wp2_with fail
  refine (hp_0 _).mono ?_
  rintro e w1 ⟨rfl, hw⟩
  subst w1
  go_wp2_with fail
  refine (cut_out _).mono ?_
  rintro e w1 ⟨rfl, hb1⟩
  have HB1 := Lib.hid hb1
  clear hb1
  go_wp2_with fail
  refine pieces_calls.mono ?_
  rintro e w2 ⟨v, rfl, ho, hb⟩
  obtain ⟨g, cap, rfl, hg, hlt, d0, d1, d2, d3⟩ := own_str4 ho
  have HB2 : Hid (Below w.heap.size w w2) := HB1.out.trans (hb.mono HB1.out.size)
  have HD : Hid (w2.cell? ⟨g, 0, none⟩ = some (.string ⟨#[97]⟩) ∧ w2.cell? ⟨g, 1, none⟩ = some (.string ⟨#[38, 38]⟩) ∧ w2.cell? ⟨g, 2, none⟩ = some (.string ⟨#[33]⟩) ∧ w2.cell? ⟨g, 3, none⟩ = some (.string ⟨#[98]⟩) ∧ g < w2.heap.size) := ⟨d0, d1, d2, d3, hlt⟩
  clear ho hb hg hlt d0 d1 d2 d3 HB1
  go_wp2_with fail
  obtain ⟨X, hX⟩ : ∃ X, (((((w2.alloc (.cells #[.slice (some ⟨g, 0, none⟩) 4 (cap + 3 + 1 : Nat)] 22)).alloc (.cells #[.func (.func 21) #[] #[.pointer (some ⟨w2.heap.size, 0, none⟩)]] 47)).alloc
    (.cells #[.func (.func 25) #[] #[.pointer (some ⟨w2.heap.size + 1 + 1 + 1 + 1, 0, none⟩), .pointer (some ⟨w2.heap.size + 1 + 1 + 1, 0, none⟩)]] 48)).alloc
    (.cells #[.func (.func 22) #[] #[.pointer (some ⟨w2.heap.size + 1, 0, none⟩), .pointer (some ⟨w2.heap.size + 1 + 1 + 1, 0, none⟩), .pointer (some ⟨w2.heap.size + 1 + 1, 0, none⟩), .pointer (some ⟨w2.heap.size, 0, none⟩)]] 48)).alloc
    (.cells #[.func (.func 24) #[] #[.pointer (some ⟨w2.heap.size + 1, 0, none⟩)]] 57)) = X := ⟨_, rfl⟩
  have h5 := five_blks _ _ _ _ _ _ _ _ _ _ _ X hX
  rw [hX]
  clear hX
  obtain ⟨b1, b2, b3, b4, b5, hbX⟩ := h5
  have hc : ∀ i, X.cell? ⟨g, i, none⟩ = w2.cell? ⟨g, i, none⟩ := fun i => cell_below hbX HD.out.2.2.2.2
  have hng : g ≠ w2.heap.size := by have := HD.out.2.2.2.2; omega
  refine (or_any (B := w2.heap.size) (g := g) (bl := w2.heap.size) (bt := w2.heap.size + 1) (bn := w2.heap.size + 1 + 1 + 1) (bo := w2.heap.size + 1 + 1) (br := w2.heap.size + 1 + 1 + 1 + 1) (c := cap) (Nat.le_refl _)
    ⟨b2, b4, b3, b5, (hc 0).trans HD.out.1, (hc 1).trans HD.out.2.1, (hc 2).trans HD.out.2.2.1, (hc 3).trans HD.out.2.2.2.1, hng, by omega, by omega, by omega, by omega⟩ b1).mono ?_
  rintro e w3 ⟨rfl, hb, hx, o3, ho, hl⟩
  have HB3 : Hid (Below w.heap.size w w3) := HB2.out.trans ((hbX.trans hb).mono HB2.out.size)
  have hl0 := hl.cell 0
  simp at hl0
  clear ho hb hx hc hng b1 b2 b3 b4 b5 hbX hl HD HB2
  go_wp2_with fail
  refine bodyPost_ret (v := .tuple #[.pointer (some ⟨w3.heap.size, 0, none⟩), .int .i64 0]) (by simp [results, Tryd.f14, go_sem]) rfl ⟨w3.heap.size, rfl, Blk.new w3 32 _, HB3.out.alloc HB3.out.size _⟩
end Go.Proofs.YtendihbndpahdaaDoor
