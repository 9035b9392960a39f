/- What stands in a type (methods.Found, methods.named, methods.place) as data; the closure that rows hands to stands. -/
import Derived.Test.YtanhdklaponekaaMtL
namespace Go.Proofs.Ytanhdklaponekaa
open Go Go.RowKit

structure Fd where
  kd : Int
  ow : ByteArray
  ty : T
  pa : List Int
  p : Bool
  df : Bool

def FdR (w : World) (S : Nat → Prop) (x : Fd) (cs : List Value) : Prop :=
  ∃ ct vp, cs = .int .i64 x.kd :: .string x.ow :: (ct ++ [vp, .bool x.p, .bool x.df]) ∧ TyR w S x.ty ct ∧ Row w S 1 vp x.pa.length (x.pa.map (.int .i64))
def NfR (w : World) (S : Nat → Prop) (x : ByteArray × Fd) (cs : List Value) : Prop := ∃ cf, cs = .string x.1 :: cf ∧ FdR w S x.2 cf
def PlR (w : World) (S : Nat → Prop) (p : T × List Int) (cs : List Value) : Prop := ∃ ct vp, cs = ct ++ [vp] ∧ TyR w S p.1 ct ∧ Row w S 1 vp p.2.length (p.2.map (.int .i64))

section
variable {w w' : World} {S S' : Nat → Prop}
theorem FdR.len {x : Fd} {cs : List Value} (h : FdR w S x cs) : cs.length = 12 := by obtain ⟨ct, vp, rfl, h, _⟩ := h; simp [h.len]
theorem NfR.len {x : ByteArray × Fd} {cs : List Value} (h : NfR w S x cs) : cs.length = 13 := by obtain ⟨cf, rfl, h⟩ := h; simp [h.len]
theorem PlR.len {x : T × List Int} {cs : List Value} (h : PlR w S x cs) : cs.length = 8 := by obtain ⟨ct, vp, rfl, h, _⟩ := h; simp [h.len]
theorem FdR.keep (hs : SameOn S w w') (h1 : ∀ b, S b → S' b) {x : Fd} {cs : List Value} (h : FdR w S x cs) : FdR w' S' x cs := by
  obtain ⟨ct, vp, rfl, h, k⟩ := h; exact ⟨ct, vp, rfl, h.keep hs h1, (k.keep hs).more h1⟩
theorem NfR.keep (hs : SameOn S w w') (h1 : ∀ b, S b → S' b) {x : ByteArray × Fd} {cs : List Value} (h : NfR w S x cs) : NfR w' S' x cs := by
  obtain ⟨cf, rfl, h⟩ := h; exact ⟨cf, rfl, h.keep hs h1⟩
theorem PlR.keep (hs : SameOn S w w') (h1 : ∀ b, S b → S' b) {x : T × List Int} {cs : List Value} (h : PlR w S x cs) : PlR w' S' x cs := by
  obtain ⟨ct, vp, rfl, h, k⟩ := h; exact ⟨ct, vp, rfl, h.keep hs h1, (k.keep hs).more h1⟩
theorem FdR.forms {x : Fd} {cs : List Value} (h : FdR w S x cs) : ∃ A1 c1 A2 c2 A3 c3 A4 c4,
    cs = [.int .i64 x.kd, .string x.ow, .int .i64 x.ty.kd, .string x.ty.nm, .int .i64 x.ty.n, .bool x.ty.fl, .slice A1 x.ty.ns.length c1, .slice A2 x.ty.ms.length c2, .slice A3 x.ty.ks.length c3, .slice A4 x.pa.length c4, .bool x.p, .bool x.df] ∧
    TyR w S x.ty [.int .i64 x.ty.kd, .string x.ty.nm, .int .i64 x.ty.n, .bool x.ty.fl, .slice A1 x.ty.ns.length c1, .slice A2 x.ty.ms.length c2, .slice A3 x.ty.ks.length c3] ∧
    Row w S 1 (.slice A4 x.pa.length c4) x.pa.length (x.pa.map (.int .i64)) := by
  obtain ⟨ct, vp, rfl, h, k⟩ := h
  obtain ⟨A1, c1, A2, c2, A3, c3, rfl, _⟩ := h.forms
  obtain ⟨A4, c4, rfl, _⟩ := k.form
  exact ⟨A1, c1, A2, c2, A3, c3, A4, c4, rfl, h, k⟩
theorem PlR.forms {x : T × List Int} {cs : List Value} (h : PlR w S x cs) : ∃ A1 c1 A2 c2 A3 c3 A4 c4,
    cs = [.int .i64 x.1.kd, .string x.1.nm, .int .i64 x.1.n, .bool x.1.fl, .slice A1 x.1.ns.length c1, .slice A2 x.1.ms.length c2, .slice A3 x.1.ks.length c3, .slice A4 x.2.length c4] ∧
    TyR w S x.1 [.int .i64 x.1.kd, .string x.1.nm, .int .i64 x.1.n, .bool x.1.fl, .slice A1 x.1.ns.length c1, .slice A2 x.1.ms.length c2, .slice A3 x.1.ks.length c3] ∧
    Row w S 1 (.slice A4 x.2.length c4) x.2.length (x.2.map (.int .i64)) := by
  obtain ⟨ct, vp, rfl, h, k⟩ := h
  obtain ⟨A1, c1, A2, c2, A3, c3, rfl, _⟩ := h.forms
  obtain ⟨A4, c4, rfl, _⟩ := k.form
  exact ⟨A1, c1, A2, c2, A3, c3, A4, c4, rfl, h, k⟩
theorem NfR.forms {x : ByteArray × Fd} {cs : List Value} (h : NfR w S x cs) : ∃ A1 c1 A2 c2 A3 c3 A4 c4,
    cs = [.string x.1, .int .i64 x.2.kd, .string x.2.ow, .int .i64 x.2.ty.kd, .string x.2.ty.nm, .int .i64 x.2.ty.n, .bool x.2.ty.fl, .slice A1 x.2.ty.ns.length c1, .slice A2 x.2.ty.ms.length c2, .slice A3 x.2.ty.ks.length c3, .slice A4 x.2.pa.length c4, .bool x.2.p, .bool x.2.df] ∧
    FdR w S x.2 [.int .i64 x.2.kd, .string x.2.ow, .int .i64 x.2.ty.kd, .string x.2.ty.nm, .int .i64 x.2.ty.n, .bool x.2.ty.fl, .slice A1 x.2.ty.ns.length c1, .slice A2 x.2.ty.ms.length c2, .slice A3 x.2.ty.ks.length c3, .slice A4 x.2.pa.length c4, .bool x.2.p, .bool x.2.df] := by
  obtain ⟨cf, rfl, h⟩ := h
  obtain ⟨A1, c1, A2, c2, A3, c3, A4, c4, rfl, _⟩ := h.forms
  exact ⟨A1, c1, A2, c2, A3, c3, A4, c4, rfl, h⟩
theorem FdR.one {x : Fd} {cs : List Value} (h : FdR w S x cs) : ∀ u ∈ cs, u.oneCell' = true := by
  obtain ⟨A1, c1, A2, c2, A3, c3, A4, c4, rfl, _⟩ := h.forms
  intro u hu
  simp only [List.mem_cons, List.not_mem_nil, or_false] at hu
  rcases hu with rfl | rfl | rfl | rfl | rfl | rfl | rfl | rfl | rfl | rfl | rfl | rfl <;> rfl
theorem PlR.one {x : T × List Int} {cs : List Value} (h : PlR w S x cs) : ∀ u ∈ cs, u.oneCell' = true := by
  obtain ⟨A1, c1, A2, c2, A3, c3, A4, c4, rfl, _⟩ := h.forms
  intro u hu
  simp only [List.mem_cons, List.not_mem_nil, or_false] at hu
  rcases hu with rfl | rfl | rfl | rfl | rfl | rfl | rfl | rfl <;> rfl
theorem plRs_one : ∀ {ps : List (T × List Int)} {xs : List Value}, AllR (PlR w S) ps xs → ∀ u ∈ xs, u.oneCell' = true
  | [], cs, h => by simp only [AllR] at h; subst h; simp
  | t :: ts, cs, h => by
    obtain ⟨c1, c2, rfl, a, b⟩ := h
    intro u hu
    rcases List.mem_append.1 hu with hu | hu
    · exact a.one u hu
    · exact plRs_one b u hu
end

/-- w' is w but for the blocks of X; it may have more. -/
structure But (X : Nat → Prop) (w w' : World) : Prop where
  os : w'.os = w.os
  tape : w'.tape = w.tape
  output : w'.output = w.output
  size : w.heap.size ≤ w'.heap.size
  block : ∀ b, b < w.heap.size → ¬ X b → w'.heap[b]? = w.heap[b]?
theorem But.refl (X : Nat → Prop) (w : World) : But X w w := ⟨rfl, rfl, rfl, Nat.le_refl _, fun _ _ _ => rfl⟩
theorem But.of_below {X : Nat → Prop} {w w' : World} (h : Below w.heap.size w w') : But X w w' := ⟨h.os, h.tape, h.output, h.size, fun b hb _ => h.block b hb⟩
theorem But.of_grown {X : Nat → Prop} {row : Option Nat} {w w' : World} (h : w.grownBy w' row) (hr : ∀ b, row = some b → X b) : But X w w' :=
  ⟨h.os, h.tape, h.output, h.size, fun b hb hn => h.block b hb (fun e => hn (hr b e.symm))⟩
theorem But.trans {X Y : Nat → Prop} {a b c : World} (h : But X a b) (k : But Y b c) (hY : ∀ i, i < a.heap.size → Y i → X i) : But X a c :=
  ⟨k.os.trans h.os, k.tape.trans h.tape, k.output.trans h.output, Nat.le_trans h.size k.size, fun i hi hn =>
    (k.block i (Nat.lt_of_lt_of_le hi h.size) (fun e => hn (hY i hi e))).trans (h.block i hi hn)⟩
theorem But.mono {X Y : Nat → Prop} {a b : World} (h : But X a b) (hY : ∀ i, i < a.heap.size → X i → Y i) : But Y a b :=
  ⟨h.os, h.tape, h.output, h.size, fun i hi hn => h.block i hi (fun e => hn (hY i hi e))⟩
theorem But.below {X : Nat → Prop} {B : Nat} {a b : World} (h : But X a b) (hX : ∀ i, i < a.heap.size → X i → B ≤ i) (hB : B ≤ a.heap.size) : Below B a b :=
  ⟨h.os, h.tape, h.output, h.size, fun i hi => h.block i (by omega) (fun e => by have := hX i (by omega) e; omega)⟩
theorem But.sameOn {X : Nat → Prop} {S : Nat → Prop} {a b : World} (h : But X a b) (hS : ∀ i, S i → i < a.heap.size ∧ ¬ X i) : SameOn S a b := fun i hi => h.block i (hS i hi).1 (hS i hi).2
theorem But.set_ {X : Nat → Prop} {a b : World} (h : But X a b) {p : Addr} (hp : a.heap.size ≤ p.block ∨ X p.block) (u : Value) : But X a (b.setCell p u) :=
  h.trans (Y := fun i => i = p.block) ⟨rfl, rfl, rfl, by simp, fun i _ hn => Below.heap_setCell b p u i hn⟩ (fun i hi e => by subst e; rcases hp with h | h; omega; exact h)
theorem But.alloc {X : Nat → Prop} {a b : World} (h : But X a b) (o : Obj) : But X a (b.alloc o) := h.trans (Y := fun _ => False) (But.of_below (below_al b o)) (fun _ _ h => h.elim)
theorem But.drew {X : Nat → Prop} {a b : World} (h : But X a b) : But X a b.drew := ⟨h.os, h.tape, h.output, h.size, h.block⟩

theorem own_same {w w' : World} {base : Nat} {e : TypeId} {size n : Nat} {v : Value} {xs : List Value} (h : w.ownsRow base e size v n xs) (hs : ∀ b, v.ownBlock = some b → w'.heap[b]? = w.heap[b]?) : w'.ownsRow base e size v n xs := by
  refine ⟨h.1, ?_⟩
  rcases h.2 with hn | ⟨g, cap, cur, rfl, hb, hgg, rest⟩
  · exact .inl hn
  · exact .inr ⟨g, cap, cur, rfl, hb, (hs g rfl).trans hgg, rest⟩
theorem own_ne {w : World} {B1 B2 : Nat} {e1 e2 : TypeId} {s1 s2 n1 n2 : Nat} {v1 v2 : Value} {x1 x2 : List Value} (h1 : w.ownsRow B1 e1 s1 v1 n1 x1) (h2 : w.ownsRow B2 e2 s2 v2 n2 x2) (he : e1 ≠ e2) :
    ∀ b, v1.ownBlock = some b → v2.ownBlock ≠ some b := by
  intro b hb1 hb2
  rcases h1.2 with ⟨rfl, _⟩ | ⟨g, cap, cur, rfl, _, hg, _⟩
  · cases hb1
  rcases h2.2 with ⟨rfl, _⟩ | ⟨g2, cap2, cur2, rfl, _, hg2, _⟩
  · cases hb2
  cases hb1
  cases hb2
  rw [hg] at hg2
  simp only [Option.some.injEq, Obj.cells.injEq] at hg2
  exact he hg2.2.1
theorem own_blk {w : World} {B : Nat} {e t : TypeId} {s n : Nat} {v : Value} {x : List Value} {g : Nat} {cs : Array Value} (h : w.ownsRow B e s v n x) (hb : Blk w g t cs) (he : e ≠ t) : v.ownBlock ≠ some g := by
  intro hb1
  rcases h.2 with ⟨rfl, _⟩ | ⟨g, cap, cur, rfl, _, hg, _⟩
  · cases hb1
  cases hb1
  unfold Blk at hb
  rw [hg] at hb
  simp only [Option.some.injEq, Obj.cells.injEq] at hb
  exact he hb.2.1

/-- the row that is told into: the variable's block rb, the slice v, what stands in it, whose types lie in the blocks of S -/
structure RowV (w : World) (S : Nat → Prop) (rb B : Nat) (v : Value) (l : List (ByteArray × Fd)) (xs : List Value) : Prop where
  var : Blk w rb 93 #[v]
  own : w.ownsRow B 95 13 v l.length xs
  data : AllR (NfR w S) l xs
  far : ∀ b, S b → b < w.heap.size ∧ b ≠ rb ∧ v.ownBlock ≠ some b
  ne : v.ownBlock ≠ some rb
  base : B ≤ w.heap.size
theorem RowV.but {w w' : World} {X S : Nat → Prop} {rb B : Nat} {v : Value} {l : List (ByteArray × Fd)} {xs : List Value} (h : RowV w S rb B v l xs) (hb : But X w w') (hX : ∀ b, b < w.heap.size → X b → ¬ S b ∧ b ≠ rb ∧ v.ownBlock ≠ some b) :
    RowV w' S rb B v l xs := by
  have hs : SameOn S w w' := hb.sameOn fun b hb' => ⟨(h.far b hb').1, fun hx => (hX b (h.far b hb').1 hx).1 hb'⟩
  refine ⟨(hb.block rb h.var.lt (fun hx => (hX rb h.var.lt hx).2.1 rfl)).trans h.var, ?_, h.data.imp fun _ _ k => k.keep hs (fun _ h => h), fun b hb' => ⟨Nat.lt_of_lt_of_le (h.far b hb').1 hb.size, (h.far b hb').2⟩, h.ne, Nat.le_trans h.base hb.size⟩
  exact own_same h.own fun b hb' => hb.block b (h.own.lt b hb').2 fun hx => (hX b (h.own.lt b hb').2 hx).2.2 hb'

theorem RowV.told {w w2 : World} {S : Nat → Prop} {rb B : Nat} {v v' : Value} {l : List (ByteArray × Fd)} {xs cf : List Value} {x : ByteArray × Fd} (h : RowV w S rb B v l xs) (hx : NfR w S x cf)
    (hown : w2.ownsRow B 95 13 v' (l.length + 1) (xs ++ cf)) (hb : But (fun b => b = rb ∨ v.ownBlock = some b) w w2) (hvar : Blk w2 rb 93 #[v]) (hne : v'.ownBlock ≠ some rb)
    (hat : v'.ownBlock = v.ownBlock ∨ ∃ g, v'.ownBlock = some g ∧ w.heap.size ≤ g) : RowV (w2.setCell ⟨rb, 0, none⟩ v') S rb B v' (l ++ [x]) (xs ++ cf) := by
  have hs : SameOn S w (w2.setCell ⟨rb, 0, none⟩ v') := (hb.sameOn fun b hb => ⟨(h.far b hb).1, fun e => e.elim (h.far b hb).2.1 (h.far b hb).2.2⟩).set_ (fun hn => (h.far _ hn).2.1 rfl) _
  have hz := hb.size
  have hB := h.base
  refine ⟨by simpa using hvar.set_ 0 v', own_same (by rw [List.length_append]; exact hown) fun b hb => Below.heap_setCell _ _ _ _ (fun e => hne (by rw [hb, e])),
    (h.data.imp fun _ _ k => k.keep hs (fun _ h => h)).append (AllR.one (hx.keep hs (fun _ h => h))), ?_, hne, by simp; omega⟩
  intro b hb
  have h1 := h.far b hb
  refine ⟨by simp; omega, h1.2.1, ?_⟩
  rcases hat with e | ⟨g, e, hge⟩
  · rw [e]; exact h1.2.2
  · rw [e]; intro e2; simp at e2; omega

theorem info_named : (Try.prog.info? 95).map (fun i => (i.zero, i.size, i.bytes)) = some (some (.agg #[.string ByteArray.empty, .int .i64 0, .string ByteArray.empty, .int .i64 0, .string ByteArray.empty, .int .i64 0, .bool false, .slice none 0 0, .slice none 0 0, .slice none 0 0, .slice none 0 0, .bool false, .bool false]), 13, 184) := by kernel_rfl

theorem nfRs_one {w : World} {S : Nat → Prop} {x : ByteArray × Fd} {cs : List Value} (h : NfR w S x cs) : ∀ u ∈ cs, u.oneCell' = true := by
  obtain ⟨cf, rfl, h⟩ := h
  intro u hu
  rcases List.mem_cons.1 hu with rfl | hu
  · rfl
  · exact h.one u hu

set_option maxHeartbeats 1000000 in
set_option maxRecDepth 100000 in
/-- what is told is added to the row -/
theorem tell_calls {w : World} {S : Nat → Prop} {rb B : Nat} {v : Value} {l : List (ByteArray × Fd)} {xs cf : List Value} {x : ByteArray × Fd} (h : RowV w S rb B v l xs) (hx : FdR w S x.2 cf) (hl : (l.length + 1) * 184 ≤ 140737488355328) :
    Calls Try.prog 80 #[.string x.1, .agg cf.toArray, .pointer (some ⟨rb, 0, none⟩)] w fun e w' => e = .returned (.tuple #[]) ∧
      ∃ v' xs', RowV w' S rb B v' (l ++ [x]) xs' ∧ But (fun b => b = rb ∨ v.ownBlock = some b) w w' ∧ (v'.ownBlock = v.ownBlock ∨ ∃ g, v'.ownBlock = some g ∧ w.heap.size ≤ g) := by
  obtain ⟨A1, c1, A2, c2, A3, c3, A4, c4, rfl, -⟩ := hx.forms
  obtain ⟨i0, hi, hz0, hz1, hz2⟩ := info_parts info_named
  have hlt := h.var.lt
  have hc : w.cell? ⟨rb, 0, none⟩ = some v := h.var.cell 0
  have H := Lib.hid h
  have HX := Lib.hid hx
  clear h hx
  go_enter Try.func80, Try.ntmps80
  go_wp2_with (at_builtin; refine wpList_append_row _ rfl _ _ 93 rfl B 95 i0 _ 13 184 Try.underlying93 hi hz0 hz1 hz2 rfl (by omega) v l.length xs rfl ?c1 (fun b => b = w.heap.size + 1) (.slice (some ⟨w.heap.size + 1, 0, none⟩) 1 1) 1 [.string x.1, .int .i64 x.2.kd, .string x.2.ow, .int .i64 x.2.ty.kd, .string x.2.ty.nm, .int .i64 x.2.ty.n, .bool x.2.ty.fl, .slice A1 x.2.ty.ns.length c1, .slice A2 x.2.ty.ms.length c2, .slice A3 x.2.ty.ks.length c3, .slice A4 x.2.pa.length c4, .bool x.2.p, .bool x.2.df] rfl ?c2 ?c3 ?c4 ?c5 ?c6 ?_)
  case c1 => exact (own_below H.out.own (below_al _ _)).alloc _
  case c2 => simpa using row_lit (w.alloc _) _ 1 rfl (by unfold maxLen; omega)
  case c3 => exact nfRs_one (w := w) (S := S) (x := x) ⟨_, rfl, HX.out⟩
  case c4 => unfold maxLen; omega
  case c5 => exact hl
  case c6 => have := H.out.base; simp; omega
  intro v' w2 hown hg hnil hat
  have hb2 : But (fun b => b = rb ∨ v.ownBlock = some b) w w2 := ((But.refl _ _).alloc _ |>.alloc _).trans (But.of_grown hg fun b hb => .inr hb) fun _ _ h => h
  have hvar2 : Blk w2 rb 93 #[v] := ((H.out.var.alloc _).alloc _).grown hg (fun e => H.out.ne e.symm)
  have hk2 : w2.cell? ⟨rb, 0, none⟩ = some v := hvar2.cell 0
  have hf2 := hvar2.frozen 0
  have hne' : v'.ownBlock ≠ some rb := by
    rcases hat with e | e
    · rw [e]; exact H.out.ne
    · rw [e]; intro e2; simp at e2; omega
  have HAT : Hid (v'.ownBlock = v.ownBlock ∨ ∃ g, v'.ownBlock = some g ∧ w.heap.size ≤ g) := by
    rcases hat with e | e
    · exact .inl e
    · exact .inr ⟨_, e, by omega⟩
  have HFIN := Lib.hid (H.out.told (x := x) ⟨_, rfl, HX.out⟩ hown hb2 hvar2 hne' HAT.out)
  have HB2 : Hid (But (fun b => b = rb ∨ v.ownBlock = some b) w (w2.setCell ⟨rb, 0, none⟩ v')) := hb2.set_ (.inr (.inl rfl)) _
  obtain ⟨A5, c5, rfl⟩ := own_form hown
  clear hb2 hvar2 hne' hown hg hnil hat
  go_wp2_with fail
  exact bodyPost_end (v := .tuple #[]) (by simp [results, Try.results80, go_sem]) rfl ⟨rfl, _, _, HFIN.out, HB2.out, HAT.out⟩
end Go.Proofs.Ytanhdklaponekaa
