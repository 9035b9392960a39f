/- recastlaw9.MethodsDeep: the walk. -/
import Derived.Test.YtanhdklaponekaaMtP
namespace Go.Proofs.Ytanhdklaponekaa
open Go Go.RowKit

/-- what is made of the list -/
structure DpL (w wr : World) (n : Nat) (tw : Bool) (j : Nat) (v : Value) (xs : List Value) : Prop where
  own : wr.ownsRow w.heap.size 43 9 v j xs
  data : AllR (NdR wr (fun b => w.heap.size ≤ b ∧ b < wr.heap.size ∧ v.ownBlock ≠ some b)) (preL n tw j) xs
  below : Below w.heap.size w wr
theorem DpL.old {w wr w2 : World} {n : Nat} {tw : Bool} {j : Nat} {v : Value} {xs : List Value} (h : DpL w wr n tw j v xs) (hb : Below wr.heap.size wr w2) : DpL w w2 n tw j v xs :=
  ⟨own_below h.own hb, h.data.imp fun _ _ k => k.keep (SameOn.of_below hb fun b hb' => hb'.2.1) fun b hb' => ⟨hb'.1, by have := hb.size; have := hb'.2.1; omega, hb'.2.2⟩, h.below.trans (hb.mono h.below.size)⟩
theorem info_string : (Try.prog.info? 9).map (fun i => (i.zero, i.size, i.bytes)) = some (some (.string ByteArray.empty), 1, 16) := by kernel_rfl
theorem info_bool : (Try.prog.info? 4).map (fun i => (i.zero, i.size, i.bytes)) = some (some (.bool false), 1, 1) := by kernel_rfl
theorem info_int : (Try.prog.info? 3).map (fun i => (i.zero, i.size, i.bytes)) = some (some (.int .i64 0), 1, 8) := by kernel_rfl
theorem info_type : (Try.prog.info? 26).map (fun i => (i.zero, i.size, i.bytes)) = some (some (.agg #[.int .i64 0, .string ByteArray.empty, .int .i64 0, .bool false, .slice none 0 0, .slice none 0 0, .slice none 0 0]), 7, 112) := by kernel_rfl
theorem info_named2 : (Try.prog.info? 43).map (fun i => (i.zero, i.size, i.bytes)) = some (some (.agg #[.string ByteArray.empty, .int .i64 0, .string ByteArray.empty, .int .i64 0, .bool false, .slice none 0 0, .slice none 0 0, .slice none 0 0, .slice none 0 0]), 9, 152) := by kernel_rfl

theorem own_blkA {w : World} {g n size base : Nat} {t : TypeId} {cs : Array Value} (h : Blk w g t cs) (hb : base ≤ g) (hs : cs.size = n * size) (hm : n ≤ maxLen) : w.ownsRow base t size (.slice (some ⟨g, 0, none⟩) n n) n cs.toList := by
  exact ⟨by simpa using hs, .inr ⟨g, n, cs, rfl, hb, h, Nat.le_refl _, hm, hs, List.take_of_length_le (by rw [Array.length_toList, hs]; exact Nat.le_refl _)⟩⟩
/-- the struct that is built: block tb -/
structure DpT (wr W : World) (tb : Nat) (v1 v2 v3 : Value) (x3 : List Value) (ns : List ByteArray) (ms : List Bool) (ks : List T) : Prop where
  cell : Blk W tb 26 #[.int .i64 14, .string ⟨#[]⟩, .int .i64 0, .bool false, v1, v2, v3]
  o1 : W.ownsRow wr.heap.size 9 1 v1 ns.length (ns.map .string)
  o2 : W.ownsRow wr.heap.size 4 1 v2 ms.length (ms.map .bool)
  o3 : W.ownsRow wr.heap.size 26 7 v3 ks.length x3
  d3 : TysR W (fun _ => False) ks x3
  ne3 : v3.ownBlock ≠ some tb
  below : Below wr.heap.size wr W
  tbl : wr.heap.size ≤ tb
theorem DpT.old {wr W W0 : World} {tb : Nat} {v1 v2 v3 : Value} {x3 : List Value} {ns : List ByteArray} {ms : List Bool} {ks : List T} (h : DpT wr W tb v1 v2 v3 x3 ns ms ks) (hb : Below W.heap.size W W0) : DpT wr W0 tb v1 v2 v3 x3 ns ms ks :=
  ⟨h.cell.below hb h.cell.lt, own_below h.o1 hb, own_below h.o2 hb, own_below h.o3 hb, h.d3.keep (fun _ hb => hb.elim) (fun _ h => h), h.ne3, h.below.trans (hb.mono h.below.size), h.tbl⟩
theorem DpT.ty {wr W : World} {tb : Nat} {v1 v2 v3 : Value} {x3 : List Value} {ns : List ByteArray} {ms : List Bool} {ks : List T} (h : DpT wr W tb v1 v2 v3 x3 ns ms ks) : TyR W (fun b => wr.heap.size ≤ b ∧ b < W.heap.size) (.mk 14 ⟨#[]⟩ 0 false ns ms ks) [.int .i64 14, .string ⟨#[]⟩, .int .i64 0, .bool false, v1, v2, v3] := by
  simp only [TyR]
  exact ⟨v1, v2, v3, x3, rfl, Row.of_own h.o1 h.o1.lt, Row.of_own h.o2 h.o2.lt, Row.of_own h.o3 h.o3.lt, h.d3.keep (SameOn.refl _ _) (fun _ h => h.elim)⟩
section
variable {wr W W0 W1 : World} {tb : Nat} {v1 v2 v3 v' : Value} {x3 cs : List Value} {ns : List ByteArray} {ms : List Bool} {ks : List T}
theorem set_same {w : World} {g o : Nat} {u : Value} {base size n : Nat} {e : TypeId} {v : Value} {xs : List Value} (h : w.ownsRow base e size v n xs) (hn : v.ownBlock ≠ some g) : (w.setCell ⟨g, o, none⟩ u).ownsRow base e size v n xs :=
  own_same h fun b hb => Below.heap_setCell _ _ _ _ (fun e => hn (by rw [hb, e]))
theorem DpT.put1 {s : ByteArray} (h0 : DpT wr W tb v1 v2 v3 x3 ns ms ks) (hb0 : Below W.heap.size W W0) (hown : W1.ownsRow wr.heap.size 9 1 v' (ns.length + 1) (ns.map .string ++ [.string s])) (hg : W0.grownBy W1 v1.ownBlock)
    (hat : v'.ownBlock = v1.ownBlock ∨ v'.ownBlock = some W0.heap.size) : DpT wr (W1.setCell ⟨tb, 4, none⟩ v') tb v' v2 v3 x3 (ns ++ [s]) ms ks := by
  have h := h0.old hb0
  have hl := h.cell.lt
  have hz := hg.size
  have hn1 : v1.ownBlock ≠ some tb := own_blk h.o1 h.cell (by decide)
  have hn' : v'.ownBlock ≠ some tb := by
    rcases hat with e | e
    · rw [e]; exact hn1
    · rw [e]; intro e2; simp at e2; omega
  have hb : But (fun b => v1.ownBlock = some b) W0 W1 := But.of_grown hg fun b hb => hb
  refine ⟨?_, set_same (by rw [List.length_append, List.map_append]; exact hown) hn', set_same (own_same h.o2 fun b e => hb.block b (h.o2.lt b e).2 fun e2 => own_ne h.o1 h.o2 (by decide) b e2 e) (own_blk h.o2 h.cell (by decide)),
    set_same (own_same h.o3 fun b e => hb.block b (h.o3.lt b e).2 fun e2 => own_ne h.o1 h.o3 (by decide) b e2 e) h.ne3, h.d3.keep (fun _ hb => hb.elim) (fun _ h => h), h.ne3, ?_, h.tbl⟩
  · simpa using (h.cell.grown hg (fun e => hn1 e.symm)).set_ 4 v'
  · exact (h.below.trans (hb.below (fun i _ e => (h.o1.lt i e).1) h.below.size)).setCell h.tbl _
theorem DpT.put2 {s : Bool} (h0 : DpT wr W tb v1 v2 v3 x3 ns ms ks) (hb0 : Below W.heap.size W W0) (hown : W1.ownsRow wr.heap.size 4 1 v' (ms.length + 1) (ms.map .bool ++ [.bool s])) (hg : W0.grownBy W1 v2.ownBlock)
    (hat : v'.ownBlock = v2.ownBlock ∨ v'.ownBlock = some W0.heap.size) : DpT wr (W1.setCell ⟨tb, 5, none⟩ v') tb v1 v' v3 x3 ns (ms ++ [s]) ks := by
  have h := h0.old hb0
  have hl := h.cell.lt
  have hz := hg.size
  have hn1 : v2.ownBlock ≠ some tb := own_blk h.o2 h.cell (by decide)
  have hn' : v'.ownBlock ≠ some tb := by
    rcases hat with e | e
    · rw [e]; exact hn1
    · rw [e]; intro e2; simp at e2; omega
  have hb : But (fun b => v2.ownBlock = some b) W0 W1 := But.of_grown hg fun b hb => hb
  refine ⟨?_, set_same (own_same h.o1 fun b e => hb.block b (h.o1.lt b e).2 fun e2 => own_ne h.o2 h.o1 (by decide) b e2 e) (own_blk h.o1 h.cell (by decide)), set_same (by rw [List.length_append, List.map_append]; exact hown) hn',
    set_same (own_same h.o3 fun b e => hb.block b (h.o3.lt b e).2 fun e2 => own_ne h.o2 h.o3 (by decide) b e2 e) h.ne3, h.d3.keep (fun _ hb => hb.elim) (fun _ h => h), h.ne3, ?_, h.tbl⟩
  · simpa using (h.cell.grown hg (fun e => hn1 e.symm)).set_ 5 v'
  · exact (h.below.trans (hb.below (fun i _ e => (h.o2.lt i e).1) h.below.size)).setCell h.tbl _
theorem DpT.put3 {u : T} (h0 : DpT wr W tb v1 v2 v3 x3 ns ms ks) (hb0 : Below W.heap.size W W0) (hown : W1.ownsRow wr.heap.size 26 7 v' (ks.length + 1) (x3 ++ cs)) (hg : W0.grownBy W1 v3.ownBlock)
    (hat : v'.ownBlock = v3.ownBlock ∨ v'.ownBlock = some W0.heap.size) (hu : ∀ wx, TyR wx (fun _ => False) u cs) : DpT wr (W1.setCell ⟨tb, 6, none⟩ v') tb v1 v2 v' (x3 ++ cs) ns ms (ks ++ [u]) := by
  have h := h0.old hb0
  have hl := h.cell.lt
  have hz := hg.size
  have hn' : v'.ownBlock ≠ some tb := by
    rcases hat with e | e
    · rw [e]; exact h.ne3
    · rw [e]; intro e2; simp at e2; omega
  have hb : But (fun b => v3.ownBlock = some b) W0 W1 := But.of_grown hg fun b hb => hb
  refine ⟨?_, set_same (own_same h.o1 fun b e => hb.block b (h.o1.lt b e).2 fun e2 => own_ne h.o3 h.o1 (by decide) b e2 e) (own_blk h.o1 h.cell (by decide)),
    set_same (own_same h.o2 fun b e => hb.block b (h.o2.lt b e).2 fun e2 => own_ne h.o3 h.o2 (by decide) b e2 e) (own_blk h.o2 h.cell (by decide)),
    set_same (by rw [List.length_append]; exact hown) hn', (h.d3.keep (S' := fun _ => False) (fun _ hb => hb.elim) (fun _ h => h)).append (TysR.one (hu _)), hn', ?_, h.tbl⟩
  · simpa using (h.cell.grown hg (fun e => h.ne3 e.symm)).set_ 6 v'
  · exact (h.below.trans (hb.below (fun i _ e => (h.o3.lt i e).1) h.below.size)).setCell h.tbl _
end

theorem DpL.step {w wr wc w5 w6 : World} {m tb : Nat} {tw : Bool} {j : Nat} {v v' v1 v2 v3 : Value} {xs x3 : List Value} {ns : List ByteArray} {ms : List Bool} {ks : List T} {o : Obj} (hL : DpL w wr m tw j v xs) (hT : DpT wr wc tb v1 v2 v3 x3 ns ms ks)
    (hdt : dT m tw j = .mk 14 ⟨#[]⟩ 0 false ns ms ks) (hb5 : Below wc.heap.size wc w5)
    (hown : w6.ownsRow w.heap.size 43 9 v' (j + 1) (xs ++ [.string (mn j), .int .i64 14, .string ⟨#[]⟩, .int .i64 0, .bool false, v1, v2, v3, .slice none 0 0]))
    (hg : (w5.alloc o).grownBy w6 v.ownBlock) (hat : v'.ownBlock = v.ownBlock ∨ v'.ownBlock = some (w5.alloc o).heap.size) :
    DpL w w6 m tw (j + 1) v' (xs ++ [.string (mn j), .int .i64 14, .string ⟨#[]⟩, .int .i64 0, .bool false, v1, v2, v3, .slice none 0 0]) := by
  have hzr := hL.below.size
  have hzc := hT.below.size
  have hz5 := hb5.size
  have hz6 := hg.size
  simp at hz6
  have hl := hL.own.lt
  have hbr : Below wr.heap.size wr (w5.alloc o) := (hT.below.trans (hb5.mono (by omega))).alloc (by omega) _
  have hne : ∀ b, b < wc.heap.size → v.ownBlock ≠ some b → v'.ownBlock ≠ some b := by
    intro b hb h
    rcases hat with e | e <;> rw [e]
    · exact h
    · simp; omega
  have hvr : ∀ b, wr.heap.size ≤ b → v.ownBlock ≠ some b := fun b hb e => by have := (hl b e).2; omega
  refine ⟨hown, ?_, hL.below.trans (hbr.mono hzr) |>.grown hg (by simp; omega) (fun k hk => (hl k hk).1)⟩
  rw [preL_succ]
  have hs1 : SameOn (fun b => w.heap.size ≤ b ∧ b < wr.heap.size ∧ v.ownBlock ≠ some b) wr w6 := fun b hb =>
    (hg.block b (by simp; omega) (fun e => hb.2.2 e.symm)).trans (hbr.block b hb.2.1)
  have hs2 : SameOn (fun b => wr.heap.size ≤ b ∧ b < wc.heap.size) wc w6 := fun b hb =>
    (hg.block b (by simp; omega) (fun e => hvr b hb.1 e.symm)).trans ((Below.heap_alloc w5 o b (by omega)).trans (hb5.block b hb.2))
  have hd : AllR (NdR w6 (fun b => w.heap.size ≤ b ∧ b < w6.heap.size ∧ v'.ownBlock ≠ some b)) (preL m tw j) xs :=
    hL.data.imp fun _ _ k => k.keep hs1 (fun b hb => ⟨hb.1, by omega, hne b (by omega) hb.2.2⟩)
  have ht : TyR w6 (fun b => w.heap.size ≤ b ∧ b < w6.heap.size ∧ v'.ownBlock ≠ some b) (dT m tw j) [.int .i64 14, .string ⟨#[]⟩, .int .i64 0, .bool false, v1, v2, v3] := by
    rw [hdt]
    exact hT.ty.keep hs2 (fun b hb => ⟨by omega, by omega, hne b hb.2 (hvr b hb.1)⟩)
  exact AllR.append hd (AllR.one ⟨[.int .i64 14, .string ⟨#[]⟩, .int .i64 0, .bool false, v1, v2, v3], .slice none 0 0, rfl, ht, [], Row.nil_, rfl⟩)

theorem row_zero {w : World} {S S' : Nat → Prop} {size : Nat} {v : Value} {xs : List Value} (h : Row w S size v 0 xs) : Row w S' size v 0 [] := by
  obtain ⟨h1, A, cap, rfl, h2, h3, h0, h4⟩ := h
  exact ⟨by simp, A, cap, rfl, h2, h3, h0, fun h => absurd h (Nat.lt_irrefl 0)⟩
theorem DpL.fin {w wr wc w6 : World} {m tb : Nat} {tw : Bool} {v v' v1 v2 v3 : Value} {xs x3 : List Value} {o : Obj} (hL : DpL w wr m tw m v xs) (hT : DpT wr wc tb v1 v2 v3 x3 [sx] [false] [k0T 1])
    (hown : w6.ownsRow w.heap.size 43 9 v' (m + 2) (xs ++ [.string (mn m), .int .i64 14, .string ⟨#[]⟩, .int .i64 0, .bool false, v1, v2, v3, .slice none 0 0, .string mZ, .int .i64 14, .string ⟨#[]⟩, .int .i64 0, .bool false, v1, v2, v3, .slice none 0 0]))
    (hg : (wc.alloc o).grownBy w6 v.ownBlock) : RowNd w6 (New w w6) v' (deepL m tw) ∧ Below w.heap.size w w6 := by
  have hzr := hL.below.size
  have hzc := hT.below.size
  have hz6 := hg.size
  simp at hz6
  have hl := hL.own.lt
  have hbr : Below wr.heap.size wr (wc.alloc o) := hT.below.alloc (by omega) _
  have hvr : ∀ b, wr.heap.size ≤ b → v.ownBlock ≠ some b := fun b hb e => by have := (hl b e).2; omega
  refine ⟨⟨_, by simpa [deepL, preL_len] using (Row.of_own hown hown.lt : Row w6 (New w w6) 9 v' (m + 2) _), ?_⟩, hL.below.trans (hbr.mono hzr) |>.grown hg (by simp; omega) (fun k hk => (hl k hk).1)⟩
  have hs1 : SameOn (fun b => w.heap.size ≤ b ∧ b < wr.heap.size ∧ v.ownBlock ≠ some b) wr w6 := fun b hb =>
    (hg.block b (by simp; omega) (fun e => hb.2.2 e.symm)).trans (hbr.block b hb.2.1)
  have hs2 : SameOn (fun b => wr.heap.size ≤ b ∧ b < wc.heap.size) wc w6 := fun b hb =>
    (hg.block b (by simp; omega) (fun e => hvr b hb.1 e.symm)).trans (Below.heap_alloc wc o b (by omega))
  have hd : AllR (NdR w6 (New w w6)) (preL m tw m) xs := hL.data.imp fun _ _ k => k.keep hs1 (fun b hb => ⟨hb.1, by omega⟩)
  have ht : TyR w6 (New w w6) endT [.int .i64 14, .string ⟨#[]⟩, .int .i64 0, .bool false, v1, v2, v3] := hT.ty.keep hs2 (fun b hb => ⟨by omega, by omega⟩)
  refine AllR.append hd ⟨_, _, rfl, ⟨[.int .i64 14, .string ⟨#[]⟩, .int .i64 0, .bool false, v1, v2, v3], .slice none 0 0, rfl, ht, [], Row.nil_, rfl⟩, AllR.one ⟨[.int .i64 14, .string ⟨#[]⟩, .int .i64 0, .bool false, v1, v2, v3], .slice none 0 0, rfl, ht, [], Row.nil_, rfl⟩⟩

set_option maxHeartbeats 8000000 in
set_option maxRecDepth 100000 in
attribute [local go_sem ↓] Go.wp_at_zero Go.wp_at_succ in
theorem deep_walk {w : World} {m : Nat} {tw : Bool} (h1 : 1 ≤ m) (h2 : m ≤ 10) : Calls Try.prog 7 #[.int .i64 m, .bool tw] w fun e w' => e = .returned (.bool true) ∧ Below w.heap.size w w' := by
  have hb1 : ((m : Int) < 1) = False := by simp; omega
  have hb2 : (10 < (m : Int)) = False := by simp; omega
  go_enter Try.func7, Try.ntmps7
  go_wp2_with fail
  refine (func1_calls (i := m) (by omega)).mono ?_
  rintro e w1 ⟨rfl, hb1x⟩
  have HB1 := Lib.hid hb1x
  have H1 : Hid (1 ≤ m ∧ m ≤ 10) := ⟨h1, h2⟩
  have hm9 : m ≤ 9223372036854775807 := by omega
  clear hb1x hb1 hb2 h1 h2
  go_wp2_with fail
  go_loopg [6, 7] m (fun dd s6 s7 wr => ∃ (j : Nat) (A6 : Option Addr) (c6 : Nat) (x6 : List Value), dd = m - j ∧ j ≤ m ∧ s6 = .slice A6 j c6 ∧ s7 = .int .i64 j ∧ Hid (DpL w wr m tw j (.slice A6 j c6) x6))
  case atStart => exact ⟨0, none, 0, [], by simp, by omega, rfl, rfl, World.ownsRow_nil _ _ _ _, rfl, HB1.out⟩
  case round =>
    obtain ⟨j, A6, c6, x6, rfl, hj, rfl, rfl, HL⟩ := hrel
    have hzl := HL.out.below.size
    by_cases hlt : j < m
    · have hj3 : (j : Int) < (m : Int) := by omega
      have HM20 : Hid (j + 1 ≤ 20) := by have := H1.out; exact Lib.hid (by omega)
      go_wp2_with fail
      rw [show ((j : Int) + 1) = ((j + 1 : Nat) : Int) from rfl]
      refine (func1_calls (i := j + 1) HM20.out).mono ?_
      rintro e w2 ⟨rfl, hb2⟩
      have HB2 := Lib.hid hb2
      clear hb2
      go_wp2_with fail
      rw [show ((j : Int) + 1) = ((j + 1 : Nat) : Int) from rfl]
      refine (func1_calls (i := j + 1) HM20.out).mono ?_
      rintro e w3 ⟨rfl, hb3⟩
      have hz2 := HB2.out.size
      have hz3 := hb3.size
      simp at hz3
      have HB3 : Hid (Below w2.heap.size ((w2.alloc (.cells #[.string (tn (j + 1))] 9)).alloc (.cells #[.bool true] 4)) w3) := hb3.mono (by simp; omega)
      have HN : Hid (Blk w3 w2.heap.size 9 #[.string (tn (j + 1))] ∧ Blk w3 (w2.heap.size + 1) 4 #[.bool true]) := by
        refine ⟨((Blk.new w2 _ _).alloc _).below hb3 (by simp; omega), Blk.below ?_ hb3 (by simp)⟩
        exact Blk.new' (by simp)
      have HX3 : Hid (Below wr.heap.size wr w3) := ((HB2.out.alloc hz2 _).alloc (by simp; omega) _).trans (hb3.mono (by simp; omega))
      clear hb3
      go_wp2_with fail
      refine (name_cells (nm := mn (j + 1))).mono ?_
      rintro e w4 ⟨rfl, hb4⟩
      have hz4 := hb4.size
      have HN4 : Hid (Blk w4 w2.heap.size 9 #[.string (tn (j + 1))] ∧ Blk w4 (w2.heap.size + 1) 4 #[.bool true]) := ⟨HN.out.1.below hb4 (by omega), HN.out.2.below hb4 (by omega)⟩
      have HX4 : Hid (Below wr.heap.size wr w4) := HX3.out.trans (hb4.mono (by omega))
      have HD : Hid (DpT wr ((w4.alloc (.cells #[.int .i64 8, .string (mn (j + 1)), .int .i64 0, .bool false, .slice none 0 0, .slice none 0 0, .slice none 0 0] 26)).alloc (.cells #[.int .i64 14, .string ⟨#[]⟩, .int .i64 0, .bool false, .slice (some ⟨w2.heap.size, 0, none⟩) 1 1, .slice (some ⟨w2.heap.size + 1, 0, none⟩) 1 1, .slice (some ⟨w4.heap.size, 0, none⟩) 1 1] 26)) (w4.heap.size + 1) (.slice (some ⟨w2.heap.size, 0, none⟩) 1 1) (.slice (some ⟨w2.heap.size + 1, 0, none⟩) 1 1) (.slice (some ⟨w4.heap.size, 0, none⟩) 1 1) [.int .i64 8, .string (mn (j + 1)), .int .i64 0, .bool false, .slice none 0 0, .slice none 0 0, .slice none 0 0] [tn (j + 1)] [true] [nameT (mn (j + 1))]) := by
        refine ⟨Blk.new' (by simp), own_blkA ((HN4.out.1.alloc _).alloc _) (by omega) rfl (by unfold maxLen; omega), own_blkA ((HN4.out.2.alloc _).alloc _) (by omega) rfl (by unfold maxLen; omega), own_blkA (n := 1) (cs := #[.int .i64 8, .string (mn (j + 1)), .int .i64 0, .bool false, .slice none 0 0, .slice none 0 0, .slice none 0 0]) ((Blk.new w4 _ _).alloc _) (by omega) rfl (by unfold maxLen; omega), ?_, by simp [Value.ownBlock], (HX4.out.alloc (by omega) _).alloc (by simp; omega) _, by omega⟩
        simp only [TysR]
        exact ⟨_, [], by simp, nameT_cells _ _ _, rfl⟩
      have HLX : Hid (DpL w ((w4.alloc (.cells #[.int .i64 8, .string (mn (j + 1)), .int .i64 0, .bool false, .slice none 0 0, .slice none 0 0, .slice none 0 0] 26)).alloc (.cells #[.int .i64 14, .string ⟨#[]⟩, .int .i64 0, .bool false, .slice (some ⟨w2.heap.size, 0, none⟩) 1 1, .slice (some ⟨w2.heap.size + 1, 0, none⟩) 1 1, .slice (some ⟨w4.heap.size, 0, none⟩) 1 1] 26)) m tw j (.slice A6 j c6) x6) := HL.out.old ((HX4.out.alloc (by omega) _).alloc (by simp; omega) _)
      clear hb4 HN
      go_upto_region 9 with fail
      go_cut [48] (fun s48 W => ∃ q : Bool, s48 = .bool q ∧ Hid (q = true ↔ tw = true ∧ j + 1 = m) ∧ W = ((w4.alloc (.cells #[.int .i64 8, .string (mn (j + 1)), .int .i64 0, .bool false, .slice none 0 0, .slice none 0 0, .slice none 0 0] 26)).alloc (.cells #[.int .i64 14, .string ⟨#[]⟩, .int .i64 0, .bool false, .slice (some ⟨w2.heap.size, 0, none⟩) 1 1, .slice (some ⟨w2.heap.size + 1, 0, none⟩) 1 1, .slice (some ⟨w4.heap.size, 0, none⟩) 1 1] 26)))
      case first =>
        cases tw with
        | false =>
          go_wp2_with fail
          go_meet
          exact ⟨false, rfl, by simp [Hid], rfl⟩
        | true =>
          by_cases e : j + 1 = m
          · have he : ((j : Int) == (m : Int) - 1) = true := by simp; omega
            have HE := Lib.hid e
            clear e
            go_wp2_with fail
            go_meet
            exact ⟨true, rfl, by simpa [Hid] using HE.out, rfl⟩
          · have he : ((j : Int) == (m : Int) - 1) = false := by simp; omega
            have HE := Lib.hid e
            clear e
            go_wp2_with fail
            go_meet
            exact ⟨false, rfl, by simpa [Hid] using HE.out, rfl⟩
      case rest =>
        obtain ⟨q, rfl, HQ, hwc⟩ := hcut
        rw [← hwc] at HD HLX
        have htb : w4.heap.size + 1 < wc.heap.size := by rw [hwc]; simp
        clear hwc
        obtain ⟨k0, k1, k2, k3, k4, k5, k6, kf⟩ := HD.out.cell.cells7
        go_upto_if 48 with fail
        go_cut [] (fun W => ∃ (B1 : Option Addr) (d1 : Nat) (B2 : Option Addr) (d2 : Nat) (B3 : Option Addr) (d3 : Nat) (x3 : List Value), Hid (DpT wr W (w4.heap.size + 1) (.slice B1 (dT m tw j).ns.length d1) (.slice B2 (dT m tw j).ms.length d2) (.slice B3 (dT m tw j).ks.length d3) x3 (dT m tw j).ns (dT m tw j).ms (dT m tw j).ks) ∧
          Hid (DpL w W m tw j (.slice A6 j c6) x6) ∧ Hid ((dT m tw j) = .mk 14 ⟨#[]⟩ 0 false (dT m tw j).ns (dT m tw j).ms (dT m tw j).ks))
        case first =>
          cases q with
          | false =>
            have hdt : dT m tw j = .mk 14 ⟨#[]⟩ 0 false [tn (j + 1)] [true] [nameT (mn (j + 1))] := by
              unfold dT
              rw [if_neg fun e => absurd (HQ.out.2 e) (by simp)]
            have HDT := Lib.hid hdt
            clear hdt
            go_wp2_with fail
            go_meet
            rw [HDT.out]
            exact ⟨_, _, _, _, _, _, _, HD, HLX, rfl⟩
          | true =>
            have hdt : dT m tw j = .mk 14 ⟨#[]⟩ 0 false [tn (j + 1), sZ] [true, true] [nameT (mn (j + 1)), nameT mZ] := by
              unfold dT
              rw [if_pos (HQ.out.1 rfl)]
            have HDT := Lib.hid hdt
            obtain ⟨i0, hi, hz0, hz1', hz2'⟩ := info_parts info_string
            clear hdt
            go_wp2_with (at_builtin; refine wpList_append_row _ rfl _ _ 22 rfl wr.heap.size 9 i0 _ 1 16 Try.underlying22 hi hz0 hz1' hz2' rfl (by omega) (.slice (some ⟨w2.heap.size, 0, none⟩) 1 1) 1 [.string (tn (j + 1))] rfl ?c1 (fun b => b = wc.heap.size) (.slice (some ⟨wc.heap.size, 0, none⟩) 1 1) 1 [.string sZ] rfl ?c2 ?c3 ?c4 ?c5 ?c6 ?_)
            case c1 => exact HD.out.o1.alloc _
            case c2 => exact row_lit wc 9 (size := 1) (cs := #[.string sZ]) 1 rfl (by unfold maxLen; omega)
            case c3 => rfl
            case c6 => have := HD.out.below.size; simp; omega
            case c4 => unfold maxLen; omega
            intro v1 w5 hown hg hnil hat
            obtain ⟨B1, d1, rfl⟩ := own_form hown
            have hd5 := HD.out.put1 (below_al wc _) hown hg (by simpa using hat)
            have hb5 := (HD.out.cell.alloc (.cells #[.string sZ] 9)).grown hg (fun e => own_blk HD.out.o1 HD.out.cell (by decide) e.symm)
            obtain ⟨p0, p1, p2, p3, p4, p5, p6, pf⟩ := hb5.cells7
            have hl5 := hb5.lt
            clear p0 p1 p2 p3 p5 p6 hb5
            go_upto_region 11 with fail
            obtain ⟨wA, hwA⟩ : ∃ x, x = w5.setCell ⟨w4.heap.size + 1, 4, none⟩ (.slice B1 2 d1) := ⟨_, rfl⟩
            rw [← hwA] at hd5 ⊢
            have HD5 := Lib.hid hd5
            have hlA := hd5.cell.lt
            clear k0 k1 k2 k3 k4 k5 k6 kf hd5 hown hg hnil hat hwA HLX HD hi hz0 hz1' hz2' htb p4 pf hl5
            obtain ⟨k0, k1, k2, k3, k4, k5, k6, kf⟩ := HD5.out.cell.cells7
            clear k0 k1 k2 k3 k4
            obtain ⟨i1, hi1, hz0, hz1', hz2'⟩ := info_parts info_bool
            go_wp2_with (at_builtin; refine wpList_append_row _ rfl _ _ 23 rfl wr.heap.size 4 i1 _ 1 1 Try.underlying23 hi1 hz0 hz1' hz2' rfl (by omega) (.slice (some ⟨w2.heap.size + 1, 0, none⟩) 1 1) 1 [.bool true] rfl ?d1 (fun b => b = wA.heap.size) (.slice (some ⟨wA.heap.size, 0, none⟩) 1 1) 1 [.bool true] rfl ?d2 ?d3 ?d4 ?d5 ?d6 ?_)
            case d1 => exact HD5.out.o2.alloc _
            case d2 => exact row_lit wA 4 (size := 1) (cs := #[.bool true]) 1 rfl (by unfold maxLen; omega)
            case d3 => intro u hu; simp only [List.mem_cons, List.not_mem_nil, or_false] at hu; subst hu; rfl
            case d5 => omega
            case d6 => have := HD5.out.below.size; simp; omega
            case d4 => unfold maxLen; omega
            intro v2 w6 hown hg hnil hat
            obtain ⟨B2, d2, rfl⟩ := own_form hown
            have hd6 := HD5.out.put2 (below_al wA _) hown hg (by simpa using hat)
            have hb6 := (HD5.out.cell.alloc (.cells #[.bool true] 4)).grown hg (fun e => own_blk HD5.out.o2 HD5.out.cell (by decide) e.symm)
            obtain ⟨p0, p1, p2, p3, p4, p5, p6, pf⟩ := hb6.cells7
            have hl6 := hb6.lt
            clear p0 p1 p2 p3 p4 p6 hb6
            go_upto_region 12 with fail
            obtain ⟨wB, hwB⟩ : ∃ x, x = w6.setCell ⟨w4.heap.size + 1, 5, none⟩ (.slice B2 2 d2) := ⟨_, rfl⟩
            rw [← hwB] at hd6 ⊢
            have HD6 := Lib.hid hd6
            have hlB := hd6.cell.lt
            clear k5 k6 kf hd6 hown hg hnil hat hwB HD5 hi1 hz0 hz1' hz2' p5 pf hl6
            obtain ⟨k0, k1, k2, k3, k4, k5, k6, kf⟩ := HD6.out.cell.cells7
            clear k0 k1 k2 k3 k4 k5
            obtain ⟨i2, hi2, hz0, hz1', hz2'⟩ := info_parts info_type
            go_region_law
              (first
                | (go_simp
                   go_at_call 20
                   refine (name_cells (nm := mZ)).mono ?_
                   rintro e w7 ⟨rfl, hb7⟩
                   have hz7 := hb7.size
                   simp at hz7
                   have HX7 : Hid (Below wB.heap.size wB w7) := (Below.refl wB.heap.size wB).drew.trans hb7
                   have hl7 : w4.heap.size + 1 < w7.heap.size := by omega
                   have q6 := (cell_below HX7.out (b := w4.heap.size + 1) (o := 6) hlB).trans k6
                   clear hb7)
                | (refine step_append_row _ rfl _ _ 24 rfl wr.heap.size 26 i2 _ 7 112 Try.underlying24 hi2 hz0 hz1' hz2' rfl (by omega) (.slice (some ⟨w4.heap.size, 0, none⟩) 1 1) 1 [.int .i64 8, .string (mn (j + 1)), .int .i64 0, .bool false, .slice none 0 0, .slice none 0 0, .slice none 0 0] (by simp [Act.eval]) ?e1 (fun b => b = w7.heap.size) (.slice (some ⟨w7.heap.size, 0, none⟩) 1 1) 1 [.int .i64 8, .string mZ, .int .i64 0, .bool false, .slice none 0 0, .slice none 0 0, .slice none 0 0] (by simp [Act.eval]) ?e2 one7 (by unfold maxLen; omega) (by omega) ?e6 ?_
                   case e1 => exact (own_below HD6.out.o3 HX7.out).alloc _
                   case e2 => exact row_lit w7 _ 1 rfl (by unfold maxLen; omega)
                   case e6 => have := HD6.out.below.size; simp; omega
                   intro v3 w8 hown hg hnil hat
                   obtain ⟨B3, d3, rfl⟩ := own_form hown
                   have HD8 := Lib.hid (HD6.out.put3 (u := nameT mZ) (HX7.out.alloc (by omega) _) hown hg (by simpa using hat) (fun wx => nameT_cells _ _ _))
                   have hb8 := ((HD6.out.cell.below HX7.out hlB).alloc (.cells #[.int .i64 8, .string mZ, .int .i64 0, .bool false, .slice none 0 0, .slice none 0 0, .slice none 0 0] 26)).grown hg (fun e => HD6.out.ne3 e.symm)
                   obtain ⟨r0, r1, r2, r3, r4, r5, r6, rf⟩ := hb8.cells7
                   have hl8 := hb8.lt
                   clear r0 r1 r2 r3 r4 r5 hb8 hown hg hnil hat))
            all_goals
              go_wp2_with fail
              go_meet
              rw [HDT.out]
              exact ⟨B1, d1, B2, d2, B3, d3, _, HD8, HL.out.old HD8.out.below, rfl⟩
        case rest =>
          obtain ⟨B1, d1, B2, d2, B3, d3, x3, HD, -, HDT⟩ := hcut
          rename World => wd
          have hLd := HL.out.old HD.out.below
          clear k0 k1 k2 k3 k4 k5 k6 kf
          obtain ⟨ns, hns⟩ : ∃ ns, (dT m tw j).ns = ns := ⟨_, rfl⟩
          obtain ⟨ms, hms⟩ : ∃ ms, (dT m tw j).ms = ms := ⟨_, rfl⟩
          obtain ⟨ks, hks⟩ : ∃ ks, (dT m tw j).ks = ks := ⟨_, rfl⟩
          rw [hns, hms, hks] at HD HDT
          clear hns hms hks hLd
          have hld := HD.out.cell.lt
          obtain ⟨k0, k1, k2, k3, k4, k5, k6, kf⟩ := HD.out.cell.cells7
          obtain ⟨i3, hi3, hz0, hz1', hz2'⟩ := info_parts info_named2
          have HOWN := Lib.hid (own_below HL.out.own HD.out.below)
          have hlet : ¬9223372036854775807 < 6 + (letter j).size := by
            have : (letter j).size = 1 := rfl
            omega
          go_upto_region 13 with fail
          go_region_law
            (first
              | (go_simp
                 go_at_call 30
                 refine (func1_calls (i := j) (by have := HM20.out; omega)).mono ?_
                 rintro e w7 ⟨rfl, hb7⟩
                 have hz7 := hb7.size
                 simp at hz7
                 have HX7 : Hid (Below wd.heap.size wd w7) := (Below.refl wd.heap.size wd).drew.trans hb7
                 have hl7 : w4.heap.size + 1 < w7.heap.size := by omega
                 obtain ⟨q0, q1, q2, q3, q4, q5, q6, qf⟩ := (HD.out.cell.below HX7.out hld).cells7
                 clear hb7)
              | (refine step_append_row _ rfl _ _ 47 rfl w.heap.size 43 i3 _ 9 152 Try.underlying47 hi3 hz0 hz1' hz2' rfl (by omega) (.slice A6 j c6) j x6 (by simp [Act.eval]) ?g1 (fun b => b = w7.heap.size) (.slice (some ⟨w7.heap.size, 0, none⟩) 1 1) 1 [.string (mn j), .int .i64 14, .string ⟨#[]⟩, .int .i64 0, .bool false, .slice B1 ns.length d1, .slice B2 ms.length d2, .slice B3 ks.length d3, .slice none 0 0] (by simp [Act.eval]) ?g2 ?g3 (by unfold maxLen; have := H1.out; omega) (by have := H1.out; omega) ?g6 ?_
                 case g1 => exact (own_below HOWN.out HX7.out).alloc _
                 case g2 => exact row_lit w7 _ 1 rfl (by unfold maxLen; omega)
                 case g3 => intro u hu; simp only [List.mem_cons, List.not_mem_nil, or_false] at hu; rcases hu with rfl | rfl | rfl | rfl | rfl | rfl | rfl | rfl | rfl <;> rfl
                 case g6 => have := HD.out.below.size; simp; omega
                 intro v' w8 hown hg hnil hat
                 have HLN := Lib.hid (HL.out.step HD.out HDT.out HX7.out hown hg (by simpa using hat))
                 obtain ⟨A', c', rfl⟩ := own_form hown
                 clear hown hg hnil hat))
          all_goals
            go_wp2_with fail
            go_roundg (m - (j + 1))
            case measure => omega
            case rel => exact ⟨j + 1, A', c', _, rfl, by omega, rfl, by go_num, HLN⟩
    · obtain rfl : j = m := by omega
      clear hlt
      go_wp2_with fail
      refine (make_own (k := 1) (ks := []) (S := fun _ => False) (by simp [T.okL]) (by simp) (rowT_nil _ _) (fun _ h => h.elim)).mono ?_
      rintro e w2 ⟨u, xs, rfl, ho2, -, hb2⟩
      obtain ⟨A2, c2, rfl⟩ := own_form ho2
      have hz2 := hb2.size
      simp at hz2
      have HN : Hid (Blk w2 wr.heap.size 9 #[.string sx] ∧ Blk w2 (wr.heap.size + 1) 4 #[.bool false]) := by
        refine ⟨((Blk.new wr _ _).alloc _).below hb2 (by simp; omega), Blk.below ?_ hb2 (by simp)⟩
        exact Blk.new' (by simp)
      have HX2 : Hid (Below wr.heap.size wr w2) := (((Below.refl _ _).alloc (Nat.le_refl _) _).alloc (by simp) _).trans (hb2.mono (by simp; omega))
      have htk : TyR w2 (fun _ => False) (k0T 1) [.int .i64 1, .string ⟨#[]⟩, .int .i64 0, .bool false, .slice none 0 0, .slice none 0 0, .slice A2 0 c2] := by
        simp only [k0T, TyR]
        exact ⟨_, _, _, [], rfl, Row.nil_, Row.nil_, row_zero (Row.of_own ho2 (S := fun _ => True) (fun _ _ => trivial)), by simp [TysR]⟩
      rw [show nT 1 ([] : List T).length = 0 from rfl, show ([] : List T).length = 0 from rfl]
      go_upto_region 15 with fail
      have hD : DpT wr ((w2.alloc (.cells #[.int .i64 1, .string ⟨#[]⟩, .int .i64 0, .bool false, .slice none 0 0, .slice none 0 0, .slice A2 0 c2] 26)).alloc (.cells #[.int .i64 14, .string ⟨#[]⟩, .int .i64 0, .bool false, .slice (some ⟨wr.heap.size, 0, none⟩) 1 1, .slice (some ⟨wr.heap.size + 1, 0, none⟩) 1 1, .slice (some ⟨w2.heap.size, 0, none⟩) 1 1] 26)) (w2.heap.size + 1) (.slice (some ⟨wr.heap.size, 0, none⟩) 1 1) (.slice (some ⟨wr.heap.size + 1, 0, none⟩) 1 1) (.slice (some ⟨w2.heap.size, 0, none⟩) 1 1) [.int .i64 1, .string ⟨#[]⟩, .int .i64 0, .bool false, .slice none 0 0, .slice none 0 0, .slice A2 0 c2] [sx] [false] [k0T 1] := by
        refine ⟨Blk.new' (by simp), own_blkA ((HN.out.1.alloc _).alloc _) (by omega) rfl (by unfold maxLen; omega), own_blkA ((HN.out.2.alloc _).alloc _) (by omega) rfl (by unfold maxLen; omega), own_blkA (n := 1) (cs := #[.int .i64 1, .string ⟨#[]⟩, .int .i64 0, .bool false, .slice none 0 0, .slice none 0 0, .slice A2 0 c2]) ((Blk.new w2 _ _).alloc _) (by omega) rfl (by unfold maxLen; omega), ?_, by simp [Value.ownBlock], (HX2.out.alloc (by omega) _).alloc (by simp; omega) _, by omega⟩
        exact TysR.one (htk.keep (fun _ h => h.elim) (fun _ h => h))
      obtain ⟨X, hX⟩ : ∃ X, X = ((w2.alloc (.cells #[.int .i64 1, .string ⟨#[]⟩, .int .i64 0, .bool false, .slice none 0 0, .slice none 0 0, .slice A2 0 c2] 26)).alloc (.cells #[.int .i64 14, .string ⟨#[]⟩, .int .i64 0, .bool false, .slice (some ⟨wr.heap.size, 0, none⟩) 1 1, .slice (some ⟨wr.heap.size + 1, 0, none⟩) 1 1, .slice (some ⟨w2.heap.size, 0, none⟩) 1 1] 26)) := ⟨_, rfl⟩
      rw [← hX] at hD ⊢
      have HD := Lib.hid hD
      obtain ⟨k0, k1, k2, k3, k4, k5, k6, kf⟩ := hD.cell.cells7
      have hlX := hD.cell.lt
      have HOWN := Lib.hid (own_below HL.out.own hD.below)
      have hlet : ¬9223372036854775807 < 6 + (letter j).size := by
        have : (letter j).size = 1 := rfl
        omega
      obtain ⟨i3, hi3, hz0, hz1', hz2'⟩ := info_parts info_named2
      clear hX hD HN HX2 htk ho2 hb2
      go_wp2_with (at_builtin; refine wpList_append_row _ rfl _ _ 47 rfl w.heap.size 43 i3 _ 9 152 Try.underlying47 hi3 hz0 hz1' hz2' rfl (by omega) (.slice A6 j c6) j x6 rfl ?h1 (fun b => b = X.heap.size) (.slice (some ⟨X.heap.size, 0, none⟩) 2 2) 2 [.string (mn j), .int .i64 14, .string ⟨#[]⟩, .int .i64 0, .bool false, .slice (some ⟨wr.heap.size, 0, none⟩) 1 1, .slice (some ⟨wr.heap.size + 1, 0, none⟩) 1 1, .slice (some ⟨w2.heap.size, 0, none⟩) 1 1, .slice none 0 0, .string mZ, .int .i64 14, .string ⟨#[]⟩, .int .i64 0, .bool false, .slice (some ⟨wr.heap.size, 0, none⟩) 1 1, .slice (some ⟨wr.heap.size + 1, 0, none⟩) 1 1, .slice (some ⟨w2.heap.size, 0, none⟩) 1 1, .slice none 0 0] rfl ?h2 ?h3 ?h4 ?h5 ?h6 ?_)
      case h1 => exact HOWN.out.alloc _
      case h2 => exact row_lit X _ 2 rfl (by unfold maxLen; omega)
      case h3 => intro u hu; simp only [List.mem_cons, List.not_mem_nil, or_false] at hu; rcases hu with rfl | rfl | rfl | rfl | rfl | rfl | rfl | rfl | rfl | rfl | rfl | rfl | rfl | rfl | rfl | rfl | rfl | rfl <;> rfl
      case h4 => unfold maxLen; have := H1.out; omega
      case h5 => have := H1.out; omega
      case h6 => have := HD.out.below.size; simp; omega
      intro v' w5 hown hg hnil hat
      have hfin := HL.out.fin HD.out hown hg
      obtain ⟨A', c', rfl⟩ := own_form hown
      have HROW := Lib.hid hfin.1
      have HB5 := Lib.hid hfin.2
      clear hfin hown hg hnil hat k0 k1 k2 k3 k4 k5 k6 kf HOWN HL
      have hfit : fitB (deepL j tw) = true ∧ undB (deepL j tw) = true := by simpa [deepOk] using deep_ok H1.out.1 H1.out.2 tw
      have HFIT := Lib.hid hfit
      have hmn : mn 0 = ⟨#[109, 97, 105, 110, 46, 84, 97]⟩ := by kernel_rfl
      have hrun : RunR (deepL j tw) (U1 (deepL j tw)) (stepL sx (lookedP (U1 (deepL j tw)) (nameT ⟨#[109, 97, 105, 110, 46, 84, 97]⟩)).2) (contL sx (lookedP (U1 (deepL j tw)) (nameT ⟨#[109, 97, 105, 110, 46, 84, 97]⟩)).2) (fun s => s = []) 15 [] [((lookedP (U1 (deepL j tw)) (nameT ⟨#[109, 97, 105, 110, 46, 84, 97]⟩)).1, [])] [] (deepF j tw) := by
        have hlk := deep_looked H1.out.1 H1.out.2 tw
        have hdr := deep_run H1.out.1 H1.out.2 tw
        rw [hmn] at hlk hdr
        rw [hlk]
        exact run_of (ok := emptyB) _ _ _ _ empty_of hdr
      have HRUN := Lib.hid hrun
      clear hfit hmn hrun hi3 hz0 hz1' hz2' hlet hlX HD hj hz2
      go_wp2_with fail
      refine (new_calls (L := deepL j tw) (S := New w w5) HROW.out (fun b hb => hb.2) (fit_of HFIT.out.1)).mono ?_
      rintro e w6 ⟨g, rfl, hwc, hb6⟩
      have HWC := Lib.hid hwc
      have HB6 : Hid (Below w.heap.size w w6) := HB5.out.trans (hb6.mono HB5.out.size)
      clear hwc hb6 HROW HB5
      go_wp2_with fail
      refine name_cells.mono ?_
      rintro e w7 ⟨rfl, hb7⟩
      have HW7 := Lib.hid (HWC.out.below hb7)
      have HB7 : Hid (Below w.heap.size w w7) := HB6.out.trans (hb7.mono HB6.out.size)
      clear hb7 HWC HB6
      go_wp2_with fail
      refine (lookup_calls (L := deepL j tw) (U := U1 (deepL j tw)) (S := fun _ => False) (Z := fun _ => False) (t := nameT ⟨#[109, 97, 105, 110, 46, 84, 97]⟩) (cs := [.int .i64 8, .string ⟨#[109, 97, 105, 110, 46, 84, 97]⟩, .int .i64 0, .bool false, .slice none 0 0, .slice none 0 0, .slice none 0 0]) (name := sx) (n := 15) (r := deepF j tw) HW7.out (und_of HFIT.out.2) (nameT_cells _ _ _) (nameT_ok (by decide)) (fun b hb => hb.elim) (fun b hb => hb.elim) HRUN.out).mono ?_
      rintro e w8 ⟨fs, rfl, hfd, hb8⟩
      have HB8 : Hid (Below w.heap.size w w8) := HB7.out.trans (hb8.mono HB7.out.size)
      clear hb8 HW7 HB7 HRUN
      cases tw with
      | true =>
        rw [show (foundP (deepF j true)).isSome = false from rfl]
        obtain ⟨F1, f1, F2, f2, F3, f3, F4, f4, rfl, -, -⟩ := hfd.forms
        clear hfd
        go_wp2_with fail
        refine (awake9 _).mono ?_
        rintro e w9 ⟨rfl, hb9⟩
        have HB9 : Hid (Below w.heap.size w w9) := (HB8.out.alloc HB8.out.size _).trans (hb9.mono (by have := HB8.out.size; simp; omega))
        clear hb9
        go_wp2_with fail
        go_ret
        exact ⟨rfl, HB9.out⟩
      | false =>
        rw [show (foundP (deepF j false)).isSome = true from rfl]
        obtain ⟨y, hy⟩ : ∃ y, (foundP (deepF j false)).getD zeroF = y := ⟨_, rfl⟩
        have hy1 : y.pa = List.replicate (j + 1) 0 := by rw [← hy]; rfl
        have hy2 : y.ow = (⟨#[109, 97, 105, 110, 46, 84]⟩ : ByteArray) ++ letter j := by rw [← hy]; rfl
        have hy3 : y.df = false := by rw [← hy]; rfl
        rw [hy] at hfd
        obtain ⟨F1, f1, F2, f2, F3, f3, F4, f4, rfl, -, hpa⟩ := hfd.forms
        rw [hy1, hy2, hy3]
        rw [hy1] at hpa
        rw [List.length_replicate] at hpa ⊢
        have HPA : Hid (Row w8 (fun b => b < w8.heap.size) 1 (.slice F4 (j + 1) f4) (List.replicate (j + 1) (0 : Int)).length ((List.replicate (j + 1) (0 : Int)).map (.int .i64))) := by
          rw [List.length_replicate]
          exact hpa.more fun b hb => hb.1
        clear hfd hpa hy hy1 hy2 hy3
        obtain ⟨yk, hyk⟩ : ∃ z, y.kd = z := ⟨_, rfl⟩
        obtain ⟨yt, hyt⟩ : ∃ z, y.ty = z := ⟨_, rfl⟩
        obtain ⟨yp, hyp⟩ : ∃ z, y.p = z := ⟨_, rfl⟩
        rw [hyk, hyt, hyp]
        clear hyk hyt hyp y
        have hlet : ¬9223372036854775807 < 6 + (letter j).size := by
          have : (letter j).size = 1 := rfl
          omega
        obtain ⟨i4, hi4, hz0, hz1', hz2'⟩ := info_parts info_int
        have hj10 : j ≤ 10 := H1.out.2
        go_upto_region 22 with fail
        obtain ⟨Y, hY⟩ : ∃ Y, Y = w8.alloc (.cells #[.int .i64 yk, .string ((⟨#[109, 97, 105, 110, 46, 84]⟩ : ByteArray) ++ letter j), .int .i64 yt.kd, .string yt.nm, .int .i64 yt.n, .bool yt.fl, .slice F1 yt.ns.length f1, .slice F2 yt.ms.length f2, .slice F3 yt.ks.length f3, .slice F4 (j + 1) f4, .bool yp, .bool false] 58) := ⟨_, rfl⟩
        rw [← hY]
        have hzY : Y.heap.size = w8.heap.size + 1 := by rw [hY]; simp
        have hbY : Blk Y w8.heap.size 58 #[.int .i64 yk, .string ((⟨#[109, 97, 105, 110, 46, 84]⟩ : ByteArray) ++ letter j), .int .i64 yt.kd, .string yt.nm, .int .i64 yt.n, .bool yt.fl, .slice F1 yt.ns.length f1, .slice F2 yt.ms.length f2, .slice F3 yt.ks.length f3, .slice F4 (j + 1) f4, .bool yp, .bool false] := by rw [hY]; exact Blk.new _ _ _
        have HBY := Lib.hid hbY
        have HXY : Hid (Below w8.heap.size w8 Y) := by rw [hY]; exact below_al _ _
        clear hbY hY
        go_wp2_with (at_make; refine wpList_make_full _ rfl _ _ _ rfl Y.heap.size 3 i4 (.int .i64 0) 1 Try.underlying56 hi4 hz0 hz1' .i64 .i64 ((j : Int) + 1) ((j : Int) + 1) (j + 1) rfl rfl ?m1 ?m2 ?m3 ?m4 ?m5 ?_)
        case m1 => omega
        case m2 => omega
        case m3 => rw [hz2']; omega
        case m4 => unfold maxLen; omega
        case m5 => exact Nat.le_refl _
        intro w9 hown hg
        have hz9 := hg.size
        have HB9 : Hid (Below w.heap.size w w9) := (HB8.out.trans (HXY.out.mono HB8.out.size)).trans ((below_of_grown hg).mono (by have := HB8.out.size; omega))
        have hb89 : Below w8.heap.size w8 w9 := HXY.out.trans ((below_of_grown hg).mono (by omega))
        have HP9 : Hid (Row w9 (fun b => b < w9.heap.size) 1 (.slice F4 (j + 1) f4) (List.replicate (j + 1) (0 : Int)).length ((List.replicate (j + 1) (0 : Int)).map (.int .i64))) :=
          (HPA.out.keep (SameOn.of_below hb89 fun b hb => hb)).more fun b hb => by have := hb89.size; omega
        have HQ9 : Hid (Row w9 (fun b => b < w9.heap.size) 1 (.slice (some ⟨w8.heap.size + 1, 0, none⟩) (j + 1) (j + 1)) (List.replicate (j + 1) (0 : Int)).length ((List.replicate (j + 1) (0 : Int)).map (.int .i64))) := by
          have h := Row.of_own hown (S := fun b => b < w9.heap.size) fun b hb => (hown.lt b hb).2
          rw [toList_madeCells_one] at h
          rw [List.length_replicate, List.map_replicate]
          exact Lib.hid (by simpa using h)
        have HF9 := Lib.hid (HBY.out.below (below_of_grown hg) (by omega))
        obtain ⟨q1, q3, q5⟩ : w9.cell? ⟨w8.heap.size, 1, none⟩ = some (.string ((⟨#[109, 97, 105, 110, 46, 84]⟩ : ByteArray) ++ letter j)) ∧ w9.cell? ⟨w8.heap.size, 9, none⟩ = some (.slice F4 (j + 1) f4) ∧ w9.cell? ⟨w8.heap.size, 11, none⟩ = some (.bool false) := ⟨HF9.out.cell 1, HF9.out.cell 9, HF9.out.cell 11⟩
        have hl9 : w8.heap.size < w9.heap.size := by omega
        clear hown hg hb89 HPA HBY HXY hi4 hz0 hz1' hz2'
        go_wp2_with fail
        refine (ints_calls (S := fun b => b < w9.heap.size) HP9.out HQ9.out (fun b hb => hb)).mono ?_
        rintro e w10 ⟨rfl, hb10⟩
        rw [show decide (List.replicate (j + 1) (0 : Int) = List.replicate (j + 1) 0) = true from decide_eq_true rfl]
        have hz10 := hb10.size
        have HB10 : Hid (Below w.heap.size w w10) := HB9.out.trans (hb10.mono HB9.out.size)
        have HF10 := Lib.hid (HF9.out.below hb10 hl9)
        clear q1 q3 q5 hb10 HP9 HQ9 HF9
        obtain ⟨q1, q3, q5⟩ : w10.cell? ⟨w8.heap.size, 1, none⟩ = some (.string ((⟨#[109, 97, 105, 110, 46, 84]⟩ : ByteArray) ++ letter j)) ∧ w10.cell? ⟨w8.heap.size, 9, none⟩ = some (.slice F4 (j + 1) f4) ∧ w10.cell? ⟨w8.heap.size, 11, none⟩ = some (.bool false) := ⟨HF10.out.cell 1, HF10.out.cell 9, HF10.out.cell 11⟩
        have hl10 : w8.heap.size < w10.heap.size := by omega
        go_wp2_with fail
        refine (awake9 _).mono ?_
        rintro e w11 ⟨rfl, hb11⟩
        have HB11 : Hid (Below w.heap.size w w11) := HB10.out.trans (hb11.mono HB10.out.size)
        clear hb11
        go_wp2_with fail
        go_ret
        exact ⟨rfl, HB11.out⟩

theorem awake9_early {w : World} {n : Int} {tw : Bool} (h : ¬(1 ≤ n ∧ n ≤ 10)) : Calls Try.prog 7 #[.int .i64 n, .bool tw] w fun e w' => e = .returned (.bool true) ∧ Below w.heap.size w w' := by
  go_enter Try.func7, Try.ntmps7
  by_cases h1 : n < 1
  · go_wp2_with fail
    refine (awake9 _).mono ?_
    rintro e w1 ⟨rfl, hb1⟩
    go_wp2_with fail
    go_ret
    exact ⟨rfl, hb1⟩
  · have h2 : 10 < n := by omega
    clear h
    go_wp2_with fail
    refine (awake9 _).mono ?_
    rintro e w1 ⟨rfl, hb1⟩
    go_wp2_with fail
    go_ret
    exact ⟨rfl, hb1⟩
end Go.Proofs.Ytanhdklaponekaa
