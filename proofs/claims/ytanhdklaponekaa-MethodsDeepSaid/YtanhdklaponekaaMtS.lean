/- methods.stands. -/
import Derived.Test.YtanhdklaponekaaMtD
namespace Go.Proofs.Ytanhdklaponekaa
open Go Go.RowKit

def ows (t : T) : ByteArray := if t.kd = 8 then t.nm else ⟨#[]⟩
def stM (ow : ByteArray) (pa : List Int) (ms : List Me) : List (ByteArray × Fd) := ms.map fun m => (m.nm, ⟨6, ow, m.sig, pa, m.p, false⟩)
def kAt (u : T) (i : Nat) : T := (u.ks[i]?).getD T0
def nAt (u : T) (i : Nat) : ByteArray := (u.ns[i]?).getD ⟨#[]⟩
def stI (ow : ByteArray) (u : T) (pa : List Int) (i : Nat) : List (ByteArray × Fd) :=
  if u.kd = 15 then [(nAt u i, ⟨10, ow, kAt u i, pa, false, false⟩)] else if u.kd = 14 then [(nAt u i, ⟨7, ow, kAt u i, pa ++ [(i : Int)], false, false⟩)] else []
def stF (ow : ByteArray) (u : T) (pa : List Int) : Nat → List (ByteArray × Fd)
  | 0 => []
  | i + 1 => stF ow u pa i ++ stI ow u pa i
def stJ (u : T) (pa : List Int) (i : Nat) : List (T × List Int) := if u.kd = 14 ∧ u.ms[i]? = some true then [(kAt u i, pa ++ [(i : Int)])] else []
def stN (u : T) (pa : List Int) : Nat → List (T × List Int)
  | 0 => []
  | i + 1 => stN u pa i ++ stJ u pa i
def stU (U : T → T) (t : T) : T :=
  if (U t).kd = 9 then (match (U t).ks with
    | [] => U t
    | k :: _ => if (U k).kd = 15 then U k else U t) else U t
def stLen (u : T) : Nat := min u.ks.length u.ns.length
/-- all that stands at a place -/
def stAll (L : List Nd) (U : T → T) (p : T × List Int) : List (ByteArray × Fd) :=
  stM (ows p.1) p.2 (if p.1.kd = 8 then (lookD L p.1.nm).ms else []) ++ stF (ows p.1) (stU U p.1) p.2 (stLen (stU U p.1))
def stNext (U : T → T) (p : T × List Int) : List (T × List Int) := stN (stU U p.1) p.2 (stLen (stU U p.1))
theorem stF_len (ow : ByteArray) (u : T) (pa : List Int) : ∀ i, (stF ow u pa i).length ≤ i
  | 0 => Nat.le_refl _
  | i + 1 => by
    have := stF_len ow u pa i
    unfold stF stI
    rw [List.length_append]
    split
    · simp; omega
    · split
      · simp; omega
      · simp; omega
theorem stN_len (u : T) (pa : List Int) : ∀ i, (stN u pa i).length ≤ i
  | 0 => Nat.le_refl _
  | i + 1 => by
    have := stN_len u pa i
    unfold stN stJ
    rw [List.length_append]
    split
    · simp; omega
    · simp; omega

/-- the blocks of the data: those of S, and the new ones but for the two arrays that are written -/
def Sx (S : Nat → Prop) (w0 wr : World) (v vn : Value) : Nat → Prop := fun b => S b ∨ (w0.heap.size ≤ b ∧ b < wr.heap.size ∧ v.ownBlock ≠ some b ∧ vn.ownBlock ≠ some b)
/-- where the row's array lies: where it lay, or in a new block -/
def Own2 (v0 v : Value) (N : Nat) : Prop := v.ownBlock = v0.ownBlock ∨ ∃ g, v.ownBlock = some g ∧ N ≤ g
theorem Own2.trans {a b c : Value} {N M : Nat} (h : Own2 a b N) (k : Own2 b c M) (hM : N ≤ M) : Own2 a c N := by
  rcases k with e | ⟨g, e, hg⟩
  · rcases h with e' | ⟨g, e', hg⟩
    · exact .inl (e.trans e')
    · exact .inr ⟨g, e.trans e', hg⟩
  · exact .inr ⟨g, e, by omega⟩

theorem RowV.grow {w w' : World} {X S S' : Nat → Prop} {rb B : Nat} {v : Value} {l : List (ByteArray × Fd)} {xs : List Value} (h : RowV w S rb B v l xs) (hb : But X w w') (hX : ∀ b, b < w.heap.size → X b → ¬ S b ∧ b ≠ rb ∧ v.ownBlock ≠ some b)
    (hS : ∀ b, S b → S' b) (hf : ∀ b, S' b → b < w'.heap.size ∧ b ≠ rb ∧ v.ownBlock ≠ some b) : RowV w' S' rb B v l xs := by
  have h1 := h.but hb hX
  exact ⟨h1.var, h1.own, h1.data.imp fun _ _ k => k.keep (SameOn.refl _ _) hS, hf, h1.ne, h1.base⟩
/-- the row behind a step that writes nothing old -/
theorem RowV.sx {w w' w0 : World} {S : Nat → Prop} {rb B : Nat} {v vn vn' : Value} {l : List (ByteArray × Fd)} {xs : List Value} (h : RowV w (Sx S w0 w v vn) rb B v l xs) (hb : Below w.heap.size w w') (hrb : rb < w0.heap.size)
    (hvn : vn'.ownBlock = vn.ownBlock ∨ ∃ g, vn'.ownBlock = some g ∧ w.heap.size ≤ g) : RowV w' (Sx S w0 w' v vn') rb B v l xs := by
  have hz := hb.size
  refine h.grow (X := fun _ => False) (But.of_below hb) (fun _ _ h => h.elim) (fun b hb' => ?_) (fun b hb' => ?_)
  · rcases hb' with h1 | ⟨h1, h2, h3, h4⟩
    · exact .inl h1
    · refine .inr ⟨h1, by omega, h3, ?_⟩
      rcases hvn with e | ⟨g, e, hg⟩
      · rw [e]; exact h4
      · rw [e]; intro e2; simp at e2; omega
  · rcases hb' with h1 | ⟨h1, h2, h3, h4⟩
    · have h5 := h.far b (.inl h1)
      exact ⟨by omega, h5.2⟩
    · exact ⟨h2, by omega, h3⟩

theorem RowV.start {w : World} {S : Nat → Prop} {rb B : Nat} {v vn : Value} {l : List (ByteArray × Fd)} {xs : List Value} (h : RowV w S rb B v l xs) : RowV w (Sx S w w v vn) rb B v l xs :=
  h.grow (But.refl (fun _ => False) w) (fun _ _ h => h.elim) (fun _ hb => .inl hb) (fun b hb => hb.elim (h.far b) (fun hb => by omega))

theorem RowV.told2 {w2 w3 w0 : World} {S : Nat → Prop} {rb B : Nat} {v1 v2 vn : Value} {l : List (ByteArray × Fd)} {xs : List Value} (h : RowV w3 (Sx S w0 w2 v1 vn) rb B v2 l xs) (ho : Own2 v1 v2 w2.heap.size) (hz : w2.heap.size ≤ w3.heap.size)
    (hrb : rb < w0.heap.size) : RowV w3 (Sx S w0 w3 v2 vn) rb B v2 l xs := by
  refine h.grow (X := fun _ => False) (But.refl _ _) (fun _ _ h => h.elim) (fun b hb => ?_) (fun b hb => ?_)
  · rcases hb with h1 | ⟨h1, h2, h3, h4⟩
    · exact .inl h1
    · refine .inr ⟨h1, by omega, ?_, h4⟩
      rcases ho with e | ⟨g, e, hg⟩
      · rw [e]; exact h3
      · rw [e]; intro e2; simp at e2; omega
  · rcases hb with h1 | ⟨h1, h2, h3, h4⟩
    · exact h.far b (.inl h1)
    · exact ⟨h2, by omega, h3⟩
theorem stM_succ {ow : ByteArray} {pa : List Int} {ms : List Me} {j : Nat} (hj : j < ms.length) : stM ow pa (ms.take (j + 1)) = stM ow pa (ms.take j) ++ [(ms[j].nm, ⟨6, ow, ms[j].sig, pa, ms[j].p, false⟩)] := by
  unfold stM
  rw [List.take_succ_eq_append_getElem hj, List.map_append]; rfl
theorem PlR.row {w : World} {S : Nat → Prop} {p : T × List Int} {v0 v1 v2 v3 v4 v5 v6 v7 : Value} (h : PlR w S p [v0, v1, v2, v3, v4, v5, v6, v7]) : Row w S 1 v7 p.2.length (p.2.map (.int .i64)) := by
  obtain ⟨A1, c1, A2, c2, A3, c3, A4, c4, e, -, hr⟩ := h.forms
  simp only [List.cons.injEq] at e
  rw [e.2.2.2.2.2.2.2.1]
  exact hr
theorem PlR.ty {w : World} {S : Nat → Prop} {p : T × List Int} {v0 v1 v2 v3 v4 v5 v6 v7 : Value} (h : PlR w S p [v0, v1, v2, v3, v4, v5, v6, v7]) : TyR w S p.1 [v0, v1, v2, v3, v4, v5, v6] := by
  obtain ⟨A1, c1, A2, c2, A3, c3, A4, c4, e, hr, -⟩ := h.forms
  simp only [List.cons.injEq] at e
  rw [e.1, e.2.1, e.2.2.1, e.2.2.2.1, e.2.2.2.2.1, e.2.2.2.2.2.1, e.2.2.2.2.2.2.1]
  exact hr
theorem one_ints (l : List Int) : ∀ u ∈ l.map (Value.int .i64), u.oneCell' = true := by
  intro u h; obtain ⟨s, _, rfl⟩ := List.mem_map.1 h; rfl
/-- a method among those of a row, cell by cell -/
theorem meAt {w : World} {S : Nat → Prop} {v : Value} {ms : List Me} {xs : List Value} (h : Row w S 9 v ms.length xs) (ha : AllR (MeR w S) ms xs) {i : Nat} (hi : i < ms.length) :
    ∃ b o cap A1 c1 A2 c2 A3 c3, v = .slice (some ⟨b, o, none⟩) ms.length cap ∧ S b ∧
      TyR w S ms[i].sig [.int .i64 ms[i].sig.kd, .string ms[i].sig.nm, .int .i64 ms[i].sig.n, .bool ms[i].sig.fl, .slice A1 ms[i].sig.ns.length c1, .slice A2 ms[i].sig.ms.length c2, .slice A3 ms[i].sig.ks.length c3] ∧
      w.cell? ⟨b, o + i * 9, none⟩ = some (.string ms[i].nm) ∧ w.cell? ⟨b, o + i * 9 + 1, none⟩ = some (.bool ms[i].p) ∧
      w.cell? ⟨b, o + i * 9 + 2, none⟩ = some (.int .i64 ms[i].sig.kd) ∧ w.cell? ⟨b, o + i * 9 + 3, none⟩ = some (.string ms[i].sig.nm) ∧ w.cell? ⟨b, o + i * 9 + 4, none⟩ = some (.int .i64 ms[i].sig.n) ∧
      w.cell? ⟨b, o + i * 9 + 5, none⟩ = some (.bool ms[i].sig.fl) ∧ w.cell? ⟨b, o + i * 9 + 6, none⟩ = some (.slice A1 ms[i].sig.ns.length c1) ∧ w.cell? ⟨b, o + i * 9 + 7, none⟩ = some (.slice A2 ms[i].sig.ms.length c2) ∧
      w.cell? ⟨b, o + i * 9 + 8, none⟩ = some (.slice A3 ms[i].sig.ks.length c3) := by
  obtain ⟨b, o, cap, cs, hv, hSb, hm, hc⟩ := row_all_at h ha (k := 9) (fun _ _ h => h.len) hi
  obtain ⟨A1, c1, A2, c2, A3, c3, rfl, ht⟩ := hm.forms
  exact ⟨b, o, cap, A1, c1, A2, c2, A3, c3, hv, hSb, ht, hc 0 _ rfl, hc 1 _ rfl, hc 2 _ rfl, hc 3 _ rfl, hc 4 _ rfl, hc 5 _ rfl, hc 6 _ rfl, hc 7 _ rfl, hc 8 _ rfl⟩

theorem info_place : (Try.prog.info? 107).map (fun i => (i.zero, i.size, i.bytes)) = some (some (.agg #[.int .i64 0, .string ByteArray.empty, .int .i64 0, .bool false, .slice none 0 0, .slice none 0 0, .slice none 0 0, .slice none 0 0]), 8, 136) := by kernel_rfl
/-- what lies where while the fields are gone through -/
structure StL (S : Nat → Prop) (w W : World) (rb B : Nat) (v1 : Value) (wr : World) (v2 : Value) (x2 : List Value) (l1 : List (ByteArray × Fd)) (s6 : Value) (xn : List Value) (n1 : List (T × List Int)) : Prop where
  row : RowV wr (Sx S w wr v2 s6) rb B v2 l1 x2
  own : wr.ownsRow w.heap.size 107 8 s6 n1.length xn
  nx : AllR (PlR wr (Sx S w wr v2 s6)) n1 xn
  but : But (fun b => b = rb ∨ v1.ownBlock = some b) W wr
  o1 : Own2 v1 v2 W.heap.size
  o2 : Own2 (.slice none 0 0) s6 W.heap.size
section
variable {S : Nat → Prop} {w W : World} {rb B : Nat} {v1 : Value} {wr : World} {v2 : Value} {x2 : List Value} {l1 : List (ByteArray × Fd)} {s6 : Value} {xn : List Value} {n1 : List (T × List Int)}
theorem StL.below {w2 : World} (h : StL S w W rb B v1 wr v2 x2 l1 s6 xn n1) (hb : Below wr.heap.size wr w2) (hrb : rb < w.heap.size) : StL S w W rb B v1 w2 v2 x2 l1 s6 xn n1 := by
  have hz := hb.size
  refine ⟨RowV.sx h.row hb hrb (.inl rfl), own_below h.own hb, h.nx.imp fun _ _ k => k.keep (SameOn.of_below hb fun b hb' => (h.row.far b hb').1) (fun b hb' => ?_), h.but.trans (Y := fun _ => False) (But.of_below hb) (fun _ _ h => h.elim), h.o1, h.o2⟩
  rcases hb' with h1 | ⟨h1, h2, h3⟩
  · exact .inl h1
  · exact .inr ⟨h1, by omega, h3⟩
theorem StL.tell {w3 : World} {v3 : Value} {x3 : List Value} {x : ByteArray × Fd} (h : StL S w W rb B v1 wr v2 x2 l1 s6 xn n1) (h3 : RowV w3 (Sx S w wr v2 s6) rb B v3 (l1 ++ [x]) x3)
    (hb3 : But (fun b => b = rb ∨ v2.ownBlock = some b) wr w3) (ho3 : Own2 v2 v3 wr.heap.size) (hrb : rb < w.heap.size) : StL S w W rb B v1 w3 v3 x3 (l1 ++ [x]) s6 xn n1 := by
  have hz := hb3.size
  have hzW := h.but.size
  have hsub : ∀ b, Sx S w wr v2 s6 b → Sx S w w3 v3 s6 b := fun b hb' => by
    rcases hb' with h1 | ⟨h1, h2, h4, h5⟩
    · exact .inl h1
    · refine .inr ⟨h1, by omega, ?_, h5⟩
      rcases ho3 with e | ⟨g, e, hg⟩
      · rw [e]; exact h4
      · rw [e]; intro e2; simp at e2; omega
  have hsm : SameOn (Sx S w wr v2 s6) wr w3 := hb3.sameOn fun b hb' => ⟨(h.row.far b hb').1, fun e => e.elim (h.row.far b hb').2.1 (h.row.far b hb').2.2⟩
  refine ⟨RowV.told2 h3 ho3 hz hrb, own_same h.own fun b hb => hb3.block b (h.own.lt b hb).2 fun e => ?_, h.nx.imp fun _ _ k => k.keep hsm hsub, ?_, h.o1.trans ho3 hzW, h.o2⟩
  · rcases e with e | e
    · exact own_blk h.own h.row.var (by decide) (e ▸ hb)
    · exact own_ne h.row.own h.own (by decide) b e hb
  · refine h.but.trans hb3 fun i hi e => ?_
    rcases e with e | e
    · exact .inl e
    · rcases h.o1 with e' | ⟨g', e', hg'⟩
      · exact .inr (e'.symm.trans e)
      · rw [e'] at e; simp at e; omega
theorem StL.next {w3 : World} {s7 : Value} {cs : List Value} {p : T × List Int} (h : StL S w W rb B v1 wr v2 x2 l1 s6 xn n1) (hown : w3.ownsRow w.heap.size 107 8 s7 (n1.length + 1) (xn ++ cs)) (hg : wr.grownBy w3 s6.ownBlock)
    (hat : s7.ownBlock = s6.ownBlock ∨ s7.ownBlock = some wr.heap.size) (hp : PlR wr (Sx S w wr v2 s6) p cs) (hrb : rb < w.heap.size) (hS : ∀ b, S b → b < w.heap.size) : StL S w W rb B v1 w3 v2 x2 l1 s7 (xn ++ cs) (n1 ++ [p]) := by
  have hb : But (fun b => s6.ownBlock = some b) wr w3 := But.of_grown hg fun b hb => hb
  have hz := hb.size
  have hzW := h.but.size
  have hsub : ∀ b, Sx S w wr v2 s6 b → Sx S w w3 v2 s7 b := fun b hb' => by
    rcases hb' with h1 | ⟨h1, h2, h4, h5⟩
    · exact .inl h1
    · refine .inr ⟨h1, by omega, h4, ?_⟩
      rcases hat with e | e
      · rw [e]; exact h5
      · rw [e]; intro e2; simp at e2; omega
  have hsm : SameOn (Sx S w wr v2 s6) wr w3 := hb.sameOn fun b hb' => ⟨(h.row.far b hb').1, fun e => by
    rcases hb' with h1 | ⟨h1, h2, h4, h5⟩
    · have := hS b h1; have := (h.own.lt b e).1; omega
    · exact h5 e⟩
  refine ⟨h.row.grow hb (fun b hbl e => ⟨fun hb' => ?_, fun e2 => ?_, fun e2 => own_ne h.row.own h.own (by decide) b e2 e⟩) hsub (fun b hb' => ?_), by rw [List.length_append]; exact hown, (h.nx.imp fun _ _ k => k.keep hsm hsub).append (AllR.one (hp.keep hsm hsub)), ?_, h.o1, ?_⟩
  · rcases hb' with h1 | ⟨h1, h2, h4, h5⟩
    · have := hS b h1; have := (h.own.lt b e).1; omega
    · exact h5 e
  · have := (h.own.lt b e).1; omega
  · rcases hb' with h1 | ⟨h1, h2, h4, h5⟩
    · have h5 := h.row.far b (.inl h1)
      exact ⟨by omega, h5.2⟩
    · exact ⟨h2, by omega, h4⟩
  · refine h.but.trans hb fun i hi e => ?_
    rcases h.o2 with e' | ⟨g', e', hg'⟩
    · rw [e'] at e; simp [Value.ownBlock] at e
    · rw [e'] at e; simp at e; omega
  · rcases hat with e | e
    · rcases h.o2 with e' | ⟨g', e', hg'⟩
      · exact .inl (e.trans e')
      · exact .inr ⟨g', e.trans e', hg'⟩
    · exact .inr ⟨_, e, hzW⟩
end

attribute [local go_sem ↓] Go.wp_at_zero Go.wp_at_succ
set_option maxHeartbeats 4000000 in
set_option maxRecDepth 100000 in
theorem stands_calls {L : List Nd} {U : T → T} {g rb B : Nat} {w : World} {S Sw : Nat → Prop} {p : T × List Int} {cs xs : List Value} {v : Value} {l : List (ByteArray × Fd)} (h : WC w Sw g L) (hU : UndF L U) (hp : PlR w S p cs) (hok : p.1.ok)
    (hv : RowV w S rb B v l xs) (hlim : l.length ≤ 1000000000 ∧ (lookD L p.1.nm).ms.length ≤ 1000000000 ∧ (stU U p.1).ks.length ≤ 1000000000 ∧ p.2.length ≤ 1000000000) (hSw : ∀ b, Sw b → b ≠ rb ∧ v.ownBlock ≠ some b) :
    Calls Try.prog 79 #[.pointer (some ⟨g, 0, none⟩), .agg cs.toArray, .func (.func 80) #[] #[.pointer (some ⟨rb, 0, none⟩)]] w fun e w' =>
      ∃ vn v' xn xs', e = .returned vn ∧ RowV w' (Sx S w w' v' vn) rb B v' (l ++ stAll L U p) xs' ∧ w'.ownsRow w.heap.size 107 8 vn (stNext U p).length xn ∧ AllR (PlR w' (Sx S w w' v' vn)) (stNext U p) xn ∧
        But (fun b => b = rb ∨ v.ownBlock = some b) w w' ∧ Own2 v v' w.heap.size := by
  obtain ⟨A1, c1, A2, c2, A3, c3, A4, c4, rfl, -⟩ := hp.forms
  have H := Lib.hid h
  have HU := Lib.hid hU
  have HP := Lib.hid hp
  have HK := Lib.hid hok
  have HV := Lib.hid hv
  have HL := Lib.hid hlim
  have HW := Lib.hid hSw
  clear h hU hp hok hv hlim hSw
  go_enter Try.func79, Try.ntmps79
  go_upto_if 20 with fail
  go_cut [6, 7] (fun s6 s7 W => s6 = .slice none 0 0 ∧ s7 = .string (ows p.1) ∧ ∃ v1 x1, Hid (RowV W (Sx S w W v1 (.slice none 0 0)) rb B v1 (l ++ stM (ows p.1) p.2 (if p.1.kd = 8 then (lookD L p.1.nm).ms else [])) x1) ∧
    Hid (But (fun b => b = rb ∨ v.ownBlock = some b) w W) ∧ Hid (Own2 v v1 w.heap.size) ∧
    Hid (Blk W w.heap.size 107 #[.int .i64 p.1.kd, .string p.1.nm, .int .i64 p.1.n, .bool p.1.fl, .slice A1 p.1.ns.length c1, .slice A2 p.1.ms.length c2, .slice A3 p.1.ks.length c3, .slice A4 p.2.length c4]))
  case first =>
    by_cases h8 : p.1.kd = 8
    · have hb8 : (p.1.kd == 8) = true := by simpa using h8
      have HOW : Hid (ows p.1 = p.1.nm) := by unfold ows; rw [if_pos h8]; exact rfl
      have HME : Hid ((if p.1.kd = 8 then (lookD L p.1.nm).ms else []) = (lookD L p.1.nm).ms) := if_pos h8
      have hnm : p.1.nm.size ≤ Lim := by
        have := HK.out
        obtain ⟨⟨k, nm, n, f, ns, ms, ks⟩, pa⟩ := p
        exact this.2.2.1
      clear h8
      go_wp2_with fail
      refine (wnamed_calls (L := L) (S := Sw) (H.out.alloc _) hnm).mono ?_
      rintro e w1 ⟨dcs, rfl, hnd, hb1⟩
      obtain ⟨D1, u1, D2, u2, D3, u3, D4, u4, rfl, hdu, hdm⟩ := hnd.forms
      have hz1 := hb1.size
      simp at hz1
      obtain ⟨d, hd⟩ : ∃ d, lookD L p.1.nm = d := ⟨_, rfl⟩
      rw [hd] at hdm ⊢
      have HDD := Lib.hid hd
      have HML : Hid (d.ms.length ≤ 1000000000) := by rw [← hd]; exact HL.out.2.1
      have hml : d.ms.length ≤ 9223372036854775807 := Nat.le_trans HML.out (by omega)
      obtain ⟨mx, hm1, hm2⟩ := hdm
      have HB0 : Hid (Blk w1 w.heap.size 107 #[.int .i64 p.1.kd, .string p.1.nm, .int .i64 p.1.n, .bool p.1.fl, .slice A1 p.1.ns.length c1, .slice A2 p.1.ms.length c2, .slice A3 p.1.ks.length c3, .slice A4 p.2.length c4]) := (Blk.new w _ _).below hb1 (by simp)
      have HM1 : Hid (Row w1 (fun b => w.heap.size < b ∧ b < w1.heap.size) 9 (.slice D4 d.ms.length u4) d.ms.length mx) := hm1.more fun b hb => ⟨by have := hb.1; simp at this; omega, hb.2⟩
      have HM2 : Hid (AllR (MeR w1 (fun b => w.heap.size < b ∧ b < w1.heap.size)) d.ms mx) := hm2.imp fun _ _ k => k.keep (SameOn.refl _ _) fun b hb => ⟨by have := hb.1; simp at this; omega, hb.2⟩
      have HX1 : Hid (Below w.heap.size w w1) := (below_al _ _).trans (hb1.mono (by simp))
      have HR1 : Hid (RowV w1 (Sx S w w1 v (.slice none 0 0)) rb B v (l ++ stM p.1.nm p.2 (d.ms.take 0)) xs) := by
        have := RowV.sx (vn' := .slice none 0 0) HV.out.start HX1.out HV.out.var.lt (.inl rfl)
        exact Lib.hid (by simpa [stM] using this)
      clear hnd hdu hm1 hm2 hb1 hd
      go_wp2_with fail
      have hvl : ∀ b, v.ownBlock = some b → b < w.heap.size := fun b hb => (HV.out.own.lt b hb).2
      have hrl := HV.out.var.lt
      have HVL := Lib.hid hvl
      clear hvl
      go_loopg [33] d.ms.length (fun m i wr => ∃ (j : Nat) (v1 : Value) (x1 : List Value), m = d.ms.length - j ∧ j ≤ d.ms.length ∧ i = .int .i64 j ∧ Hid (RowV wr (Sx S w wr v1 (.slice none 0 0)) rb B v1 (l ++ stM p.1.nm p.2 (d.ms.take j)) x1) ∧
        Hid (But (fun b => b = rb ∨ v.ownBlock = some b) w1 wr) ∧ Hid (Own2 v v1 w1.heap.size))
      case atStart => exact ⟨0, v, xs, by simp, by omega, rfl, RowV.sx (vn' := .slice none 0 0) HR1.out (below_al _ _) hrl (.inl rfl), (But.refl _ _).alloc _, .inl rfl⟩
      case round =>
        obtain ⟨j, v1, x1, rfl, hj, rfl, HR, HBX, HO⟩ := hrel
        have hzr := HBX.out.size
        have hs1 : ∀ S' : Nat → Prop, (∀ b, S' b → w.heap.size ≤ b ∧ b < w1.heap.size) → SameOn S' w1 wr := fun S' hS' => HBX.out.sameOn fun b hb => ⟨(hS' b hb).2, fun e => e.elim (fun e => by have := (hS' b hb).1; omega) (fun e => by have := HVL.out b e; have := (hS' b hb).1; omega)⟩
        have HS1 := Lib.hid hs1
        obtain ⟨k0, k1, k2, k3, k4, k5, k6, k7⟩ : wr.cell? ⟨w.heap.size, 0, none⟩ = _ ∧ wr.cell? ⟨w.heap.size, 1, none⟩ = _ ∧ wr.cell? ⟨w.heap.size, 2, none⟩ = _ ∧ wr.cell? ⟨w.heap.size, 3, none⟩ = _ ∧ wr.cell? ⟨w.heap.size, 4, none⟩ = _ ∧ wr.cell? ⟨w.heap.size, 5, none⟩ = _ ∧ wr.cell? ⟨w.heap.size, 6, none⟩ = _ ∧ wr.cell? ⟨w.heap.size, 7, none⟩ = _ := by
          have hh := hs1 (fun b => b = w.heap.size) (fun b hb => by subst hb; omega)
          exact ⟨(hh.cell rfl 0).trans (HB0.out.cell 0), (hh.cell rfl 1).trans (HB0.out.cell 1), (hh.cell rfl 2).trans (HB0.out.cell 2), (hh.cell rfl 3).trans (HB0.out.cell 3), (hh.cell rfl 4).trans (HB0.out.cell 4), (hh.cell rfl 5).trans (HB0.out.cell 5), (hh.cell rfl 6).trans (HB0.out.cell 6), (hh.cell rfl 7).trans (HB0.out.cell 7)⟩
        have hs2 := hs1 (fun b => w.heap.size < b ∧ b < w1.heap.size) (fun b hb => by omega)
        by_cases hlt : j < d.ms.length
        · obtain ⟨b, o, cap, E1, e1, E2, e2, E3, e3, hv', hSb, hty, q0, q1, q2, q3, q4, q5, q6, q7, q8⟩ := meAt (HM1.out.keep hs2) (HM2.out.imp fun _ _ k => k.keep hs2 (fun _ h => h)) hlt
          cases hv'
          have HTY := Lib.hid hty
          have hSb2 : w.heap.size < b ∧ b < w1.heap.size := hSb
          clear hs1 hs2 hty hSb
          have hj3 : (j : Int) < (d.ms.length : Int) := by omega
          have hwl : w.heap.size < wr.heap.size := by omega
          have hbl' : b < wr.heap.size := by omega
          have HSW : Hid (SameOn S w wr) := (SameOn.of_below HX1.out (fun b hb => (HV.out.far b hb).1)).trans (HBX.out.sameOn fun b hb => ⟨by have := (HV.out.far b hb).1; omega, fun e => e.elim (HV.out.far b hb).2.1 (HV.out.far b hb).2.2⟩)
          have HBW : Hid (b < w1.heap.size ∧ w.heap.size < b) := ⟨hSb2.2, hSb2.1⟩
          clear hSb2
          go_wp2_with fail
          have hh : ∀ w' : World, w'.cell? ⟨w.heap.size, 7, none⟩ = some (.slice A4 p.2.length c4) → Blk w' wr.heap.size 89 #[.string d.ms[j].nm, .bool d.ms[j].p, .int .i64 d.ms[j].sig.kd, .string d.ms[j].sig.nm, .int .i64 d.ms[j].sig.n, .bool d.ms[j].sig.fl, .slice E1 d.ms[j].sig.ns.length e1, .slice E2 d.ms[j].sig.ms.length e2, .slice E3 d.ms[j].sig.ks.length e3] → (fun w' => w'.cell? ⟨w.heap.size, 7, none⟩ = some (.slice A4 p.2.length c4) ∧ w'.cell? ⟨wr.heap.size, 0, none⟩ = some (.string d.ms[j].nm) ∧ w'.cell? ⟨wr.heap.size, 1, none⟩ = some (.bool d.ms[j].p) ∧ w'.cell? ⟨wr.heap.size, 2, none⟩ = some (.int .i64 d.ms[j].sig.kd) ∧ w'.cell? ⟨wr.heap.size, 3, none⟩ = some (.string d.ms[j].sig.nm) ∧ w'.cell? ⟨wr.heap.size, 4, none⟩ = some (.int .i64 d.ms[j].sig.n) ∧ w'.cell? ⟨wr.heap.size, 5, none⟩ = some (.bool d.ms[j].sig.fl) ∧ w'.cell? ⟨wr.heap.size, 6, none⟩ = some (.slice E1 d.ms[j].sig.ns.length e1) ∧ w'.cell? ⟨wr.heap.size, 7, none⟩ = some (.slice E2 d.ms[j].sig.ms.length e2) ∧ w'.cell? ⟨wr.heap.size, 8, none⟩ = some (.slice E3 d.ms[j].sig.ks.length e3)) w' := fun w' h7 hb => ⟨h7, hb.cell 0, hb.cell 1, hb.cell 2, hb.cell 3, hb.cell 4, hb.cell 5, hb.cell 6, hb.cell 7, hb.cell 8⟩
          have HH := Lib.hid hh
          have hS0 := hh ((wr.alloc (.cells #[.string d.ms[j].nm, .bool d.ms[j].p, .int .i64 d.ms[j].sig.kd, .string d.ms[j].sig.nm, .int .i64 d.ms[j].sig.n, .bool d.ms[j].sig.fl, .slice E1 d.ms[j].sig.ns.length e1, .slice E2 d.ms[j].sig.ms.length e2, .slice E3 d.ms[j].sig.ks.length e3] 89)).drew) ((cell_below (below_al wr _).drew hwl).trans k7) (Blk.new wr _ _).drew
          have HK7 := Lib.hid k7
          clear hh k0 k1 k2 k3 k4 k5 k6 k7
          go_region_held3 (fun w' => w'.cell? ⟨w.heap.size, 7, none⟩ = some (.slice A4 p.2.length c4) ∧ w'.cell? ⟨wr.heap.size, 0, none⟩ = some (.string d.ms[j].nm) ∧ w'.cell? ⟨wr.heap.size, 1, none⟩ = some (.bool d.ms[j].p) ∧ w'.cell? ⟨wr.heap.size, 2, none⟩ = some (.int .i64 d.ms[j].sig.kd) ∧ w'.cell? ⟨wr.heap.size, 3, none⟩ = some (.string d.ms[j].sig.nm) ∧ w'.cell? ⟨wr.heap.size, 4, none⟩ = some (.int .i64 d.ms[j].sig.n) ∧ w'.cell? ⟨wr.heap.size, 5, none⟩ = some (.bool d.ms[j].sig.fl) ∧ w'.cell? ⟨wr.heap.size, 6, none⟩ = some (.slice E1 d.ms[j].sig.ns.length e1) ∧ w'.cell? ⟨wr.heap.size, 7, none⟩ = some (.slice E2 d.ms[j].sig.ms.length e2) ∧ w'.cell? ⟨wr.heap.size, 8, none⟩ = some (.slice E3 d.ms[j].sig.ks.length e3)) (first | exact hS0 | exact hS2 | exact hS3)
            (first
              | (go_at_call 87
                 refine (clone_ints _ S _ _ _ (HP.out.row.keep (HSW.out.trans (SameOn.of_below ((below_al wr _).drew) (fun b hb => Nat.lt_of_lt_of_le (HV.out.far b hb).1 (by omega))))) (fun b hb => by have := (HV.out.far b hb).1; simp; omega) (one_ints _) (by have := HL.out.2.2.2; omega)).mono ?_
                 rintro e w2 ⟨v5, rfl, ho5, -, hb5⟩
                 obtain ⟨A5, c5, rfl⟩ := own_form ho5
                 have hz5 := hb5.size
                 simp at hz5
                 have hb52 : Below wr.heap.size wr w2 := (below_al wr _).drew.trans (hb5.mono (by simp))
                 have HB52 := Lib.hid hb52
                 have HR2 : Hid (RowV w2 (Sx S w w2 v1 (.slice none 0 0)) rb B v1 (l ++ stM p.1.nm p.2 (d.ms.take j)) x1) := RowV.sx (vn' := .slice none 0 0) HR.out hb52 hrl (.inl rfl)
                 have HO5 := Lib.hid ho5
                 have HBM2 : Hid (Blk w2 wr.heap.size 89 #[.string d.ms[j].nm, .bool d.ms[j].p, .int .i64 d.ms[j].sig.kd, .string d.ms[j].sig.nm, .int .i64 d.ms[j].sig.n, .bool d.ms[j].sig.fl, .slice E1 d.ms[j].sig.ns.length e1, .slice E2 d.ms[j].sig.ms.length e2, .slice E3 d.ms[j].sig.ks.length e3]) := (Blk.new wr _ _).drew.below hb5 (by simp)
                 have HK72 : Hid (w2.cell? ⟨w.heap.size, 7, none⟩ = some (.slice A4 p.2.length c4)) := (cell_below hb52 (b := w.heap.size) (o := 7) hwl).trans HK7.out
                 have hS2 := HH.out w2 HK72.out HBM2.out
                 clear hb52 ho5 hb5 hS0)
              | (go_at_call 80
                 refine (tell_calls (S := Sx S w w2 v1 (.slice none 0 0)) (x := (d.ms[j].nm, ⟨6, p.1.nm, d.ms[j].sig, p.2, d.ms[j].p, false⟩)) HR2.out (cf := [.int .i64 6, .string p.1.nm, .int .i64 d.ms[j].sig.kd, .string d.ms[j].sig.nm, .int .i64 d.ms[j].sig.n, .bool d.ms[j].sig.fl, .slice E1 d.ms[j].sig.ns.length e1, .slice E2 d.ms[j].sig.ms.length e2, .slice E3 d.ms[j].sig.ks.length e3, .slice A5 p.2.length c5, .bool d.ms[j].p, .bool false]) ?fd ?room).mono ?_
                 case fd =>
                   refine ⟨[.int .i64 d.ms[j].sig.kd, .string d.ms[j].sig.nm, .int .i64 d.ms[j].sig.n, .bool d.ms[j].sig.fl, .slice E1 d.ms[j].sig.ns.length e1, .slice E2 d.ms[j].sig.ms.length e2, .slice E3 d.ms[j].sig.ks.length e3], _, rfl, ?_, ?_⟩
                   · refine HTY.out.keep (SameOn.of_below HB52.out (fun b hb => by omega)) (fun b hb => .inr ⟨by omega, by omega, ?_, by simp [Value.ownBlock]⟩)
                     intro e
                     rcases HO.out with e' | ⟨g', e', hg'⟩
                     · rw [e'] at e; have := HVL.out b e; omega
                     · rw [e'] at e; simp at e; omega
                   · refine Row.of_own HO5.out (fun b hb => ?_)
                     have h1 := HO5.out.lt b hb
                     simp at h1
                     refine .inr ⟨by omega, h1.2, fun e => ?_, by simp [Value.ownBlock]⟩
                     have := (HR.out.own.lt b e).2
                     omega
                 case room =>
                   have h1 := HL.out.1
                   have h2 := HML.out
                   simp only [List.length_append, stM, List.length_map, List.length_take]
                   omega
                 rintro e w3 ⟨rfl, v2, x2, h3, hb3, ho3⟩
                 have HR3 := Lib.hid (RowV.told2 h3 ho3 hb3.size hrl)
                 have HB3 := Lib.hid hb3
                 have HO3 := Lib.hid ho3
                 have hfar : ∀ b, w.heap.size ≤ b → v1.ownBlock ≠ some b → b < w2.heap.size → w3.heap[b]? = w2.heap[b]? := fun b h1 h2 h3 => hb3.block b h3 (fun e => e.elim (fun e => by omega) h2)
                 have hn1 : ∀ b, w.heap.size ≤ b → b < w1.heap.size → v1.ownBlock ≠ some b := by
                   intro b h1 h2 e
                   rcases HO.out with e' | ⟨g', e', hg'⟩
                   · rw [e'] at e; have := HVL.out b e; omega
                   · rw [e'] at e; simp at e; omega
                 have hS3 : (fun w' => w'.cell? ⟨w.heap.size, 7, none⟩ = some (.slice A4 p.2.length c4) ∧ w'.cell? ⟨wr.heap.size, 0, none⟩ = some (.string d.ms[j].nm) ∧ w'.cell? ⟨wr.heap.size, 1, none⟩ = some (.bool d.ms[j].p) ∧ w'.cell? ⟨wr.heap.size, 2, none⟩ = some (.int .i64 d.ms[j].sig.kd) ∧ w'.cell? ⟨wr.heap.size, 3, none⟩ = some (.string d.ms[j].sig.nm) ∧ w'.cell? ⟨wr.heap.size, 4, none⟩ = some (.int .i64 d.ms[j].sig.n) ∧ w'.cell? ⟨wr.heap.size, 5, none⟩ = some (.bool d.ms[j].sig.fl) ∧ w'.cell? ⟨wr.heap.size, 6, none⟩ = some (.slice E1 d.ms[j].sig.ns.length e1) ∧ w'.cell? ⟨wr.heap.size, 7, none⟩ = some (.slice E2 d.ms[j].sig.ms.length e2) ∧ w'.cell? ⟨wr.heap.size, 8, none⟩ = some (.slice E3 d.ms[j].sig.ks.length e3)) w3 := HH.out w3 ((World.cell?_of_block (a := ⟨w.heap.size, 7, none⟩) (hfar _ (Nat.le_refl _) (hn1 _ (Nat.le_refl _) (by show w.heap.size < w1.heap.size; omega)) (by show w.heap.size < w2.heap.size; omega))).trans HK72.out) ((hfar wr.heap.size (by omega) (fun e => by have := (HR.out.own.lt _ e).2; omega) (by omega)).trans HBM2.out)
                 clear h3 hb3 ho3 hS2 hfar hn1))
          all_goals
            go_wp2_with fail
            go_roundg (d.ms.length - (j + 1))
            case measure => omega
            case rel =>
              refine ⟨j + 1, v2, x2, rfl, by omega, by go_num, ?_, ?_, ?_⟩
              · rw [stM_succ hlt, ← List.append_assoc]; exact HR3
              · exact (HBX.out.trans (But.of_below (X := fun _ => False) HB52.out) (fun _ _ h => h.elim)).trans HB3.out (fun i hi e => by
                  rcases e with e | e
                  · exact .inl e
                  · rcases HO.out with e' | ⟨g', e', hg'⟩
                    · exact .inr (e'.symm.trans e)
                    · rw [e'] at e; simp at e; omega)
              · exact HO.out.trans HO3.out (by omega)
        · obtain rfl : j = d.ms.length := by omega
          clear hs1 hs2 hlt hj
          go_wp2_with fail
          go_meet
          rw [HOW.out, HME.out, HDD.out]
          refine ⟨rfl, rfl, v1, x1, ?_, ?_, ?_, ?_⟩
          · have := HR.out
            rw [List.take_of_length_le (Nat.le_refl _)] at this
            exact this
          · exact (But.of_below (X := fun b => b = rb ∨ v.ownBlock = some b) HX1.out).trans HBX.out (fun _ _ h => h)
          · rcases HO.out with e' | ⟨g', e', hg'⟩
            · exact .inl e'
            · exact .inr ⟨g', e', by omega⟩
          · exact (HS1.out (fun b => b = w.heap.size) (fun b hb => by subst hb; omega) _ rfl).trans HB0.out
    · have hb8 : (p.1.kd == 8) = false := by simpa using h8
      have HOW : Hid (ows p.1 = ⟨#[]⟩) := by unfold ows; rw [if_neg h8]; exact rfl
      have HME : Hid ((if p.1.kd = 8 then (lookD L p.1.nm).ms else []) = []) := if_neg h8
      clear h8
      go_wp2_with fail
      go_meet
      rw [HOW.out, HME.out]
      refine ⟨rfl, rfl, v, xs, ?_, (But.refl _ _).alloc _, .inl rfl, Blk.new w _ _⟩
      have := RowV.sx (vn' := .slice none 0 0) HV.out.start (below_al w (.cells #[.int .i64 p.1.kd, .string p.1.nm, .int .i64 p.1.n, .bool p.1.fl, .slice A1 p.1.ns.length c1, .slice A2 p.1.ms.length c2, .slice A3 p.1.ks.length c3, .slice A4 p.2.length c4] 107)) HV.out.var.lt (.inl rfl)
      exact Lib.hid (by simpa [stM] using this)
  case rest =>
    obtain ⟨rfl, rfl, v1, x1, HR, HBX, HO, HB0⟩ := hcut
    obtain ⟨W0, rfl⟩ : ∃ x, x = wc := ⟨wc, rfl⟩
    have hrl := HV.out.var.lt
    have hzc := HBX.out.size
    have hB0l := HB0.out.lt
    have HSW : Hid (SameOn S w W0) := HBX.out.sameOn fun b hb => ⟨(HV.out.far b hb).1, fun e => e.elim (HV.out.far b hb).2.1 (HV.out.far b hb).2.2⟩
    have HWC : Hid (WC W0 Sw g L) := H.out.same (HBX.out.sameOn fun b hb => ⟨H.out.old b hb, fun e => e.elim (HW.out b hb).1 (HW.out b hb).2⟩) hzc
    obtain ⟨k0, k1, k2, k3, k4, k5, k6, k7⟩ : W0.cell? ⟨w.heap.size, 0, none⟩ = _ ∧ W0.cell? ⟨w.heap.size, 1, none⟩ = _ ∧ W0.cell? ⟨w.heap.size, 2, none⟩ = _ ∧ W0.cell? ⟨w.heap.size, 3, none⟩ = _ ∧ W0.cell? ⟨w.heap.size, 4, none⟩ = _ ∧ W0.cell? ⟨w.heap.size, 5, none⟩ = _ ∧ W0.cell? ⟨w.heap.size, 6, none⟩ = _ ∧ W0.cell? ⟨w.heap.size, 7, none⟩ = _ :=
      ⟨HB0.out.cell 0, HB0.out.cell 1, HB0.out.cell 2, HB0.out.cell 3, HB0.out.cell 4, HB0.out.cell 5, HB0.out.cell 6, HB0.out.cell 7⟩
    go_wp2_with fail
    obtain ⟨n, hn⟩ := HU.out p.1
    refine (wunder_calls (L := L) (S := Sw) (S' := S) (t := p.1) (cs := [.int .i64 p.1.kd, .string p.1.nm, .int .i64 p.1.n, .bool p.1.fl, .slice A1 p.1.ns.length c1, .slice A2 p.1.ms.length c2, .slice A3 p.1.ks.length c3]) HWC.out (HP.out.ty.keep HSW.out (fun _ h => h)) (fun b hb => by have := (HV.out.far b hb).1; omega) HK.out hn).mono ?_
    rintro e w1 ⟨h1, hu⟩
    obtain ⟨B1, d1, B2, d2, B3, d3, rfl, hty, hb1⟩ := h1.forms
    have hz1 := hb1.size
    have HTY := Lib.hid hty
    have HUO := Lib.hid hu
    have HX1 := Lib.hid hb1
    clear h1 hb1 hty hu hn k0 k1 k2 k3 k4 k5 k6 k7
    obtain ⟨u, hu⟩ : ∃ u, U p.1 = u := ⟨_, rfl⟩
    rw [hu] at HTY HUO ⊢
    have HUE := Lib.hid hu
    clear hu
    go_upto_region 11 with fail
    go_cut [63] (fun s W => ∃ c : Bool, s = .bool c ∧ Hid (c = true ↔ u.kd = 9 ∧ 0 < u.ks.length) ∧ W = w1.alloc (.cells #[.int .i64 u.kd, .string u.nm, .int .i64 u.n, .bool u.fl, .slice B1 u.ns.length d1, .slice B2 u.ms.length d2, .slice B3 u.ks.length d3] 26))
    case first =>
      by_cases h9 : u.kd = 9
      · have hb9 : (u.kd == 9) = true := by simpa using h9
        have H9 := Lib.hid h9
        clear h9
        go_wp2_with fail
        go_meet
        exact ⟨decide (0 < u.ks.length), by simp, by simp [Hid, H9.out], rfl⟩
      · have hb9 : (u.kd == 9) = false := by simpa using h9
        have H9 := Lib.hid h9
        clear h9
        go_wp2_with fail
        go_meet
        exact ⟨false, rfl, by simp [Hid, H9.out], rfl⟩
    case rest =>
    obtain ⟨c, rfl, HC, rfl⟩ := hcut
    have HU2 : Hid (Blk (w1.alloc (.cells #[.int .i64 u.kd, .string u.nm, .int .i64 u.n, .bool u.fl, .slice B1 u.ns.length d1, .slice B2 u.ms.length d2, .slice B3 u.ks.length d3] 26)) w1.heap.size 26 #[.int .i64 u.kd, .string u.nm, .int .i64 u.n, .bool u.fl, .slice B1 u.ns.length d1, .slice B2 u.ms.length d2, .slice B3 u.ks.length d3]) := Blk.new _ _ _
    have HTY2 : Hid (TyR w1 (fun b => W0.heap.size ≤ b ∧ b < w1.heap.size) u [.int .i64 u.kd, .string u.nm, .int .i64 u.n, .bool u.fl, .slice B1 u.ns.length d1, .slice B2 u.ms.length d2, .slice B3 u.ks.length d3]) := HTY
    go_upto_if 63 with fail
    go_cut [] (fun W => ∃ (r : T) (E1 : Option Addr) (e1 : Nat) (E2 : Option Addr) (e2 : Nat) (E3 : Option Addr) (e3 : Nat), Hid (stU U p.1 = r) ∧ Hid r.ok ∧ Hid (Blk W w1.heap.size 26 #[.int .i64 r.kd, .string r.nm, .int .i64 r.n, .bool r.fl, .slice E1 r.ns.length e1, .slice E2 r.ms.length e2, .slice E3 r.ks.length e3]) ∧
      Hid (TyR W (fun b => W0.heap.size ≤ b ∧ b < W.heap.size ∧ b ≠ w1.heap.size) r [.int .i64 r.kd, .string r.nm, .int .i64 r.n, .bool r.fl, .slice E1 r.ns.length e1, .slice E2 r.ms.length e2, .slice E3 r.ks.length e3]) ∧ Hid (Below W0.heap.size W0 W))
    case first =>
      cases c with
      | false =>
        have HSU : Hid (stU U p.1 = u) := by
          unfold stU
          rw [HUE.out]
          split
          · rename_i h9
            have : u.ks = [] := by
              rcases hk : u.ks with _ | ⟨k, rest⟩
              · exact rfl
              · exact absurd (HC.out.2 ⟨h9, by rw [hk]; simp⟩) (by simp)
            rw [this]; exact rfl
          · exact rfl
        go_wp2_with fail
        go_meet
        exact ⟨u, B1, d1, B2, d2, B3, d3, HSU, HUO, HU2, HTY2.out.keep (SameOn.of_below (below_al _ _) (fun b hb => hb.2)) (fun b hb => ⟨hb.1, by have := hb.2; simp; omega, by have := hb.2; omega⟩), HX1.out.alloc hz1 _⟩
      | true =>
        obtain ⟨h9, h0⟩ := HC.out.1 rfl
        obtain ⟨k, rest, hks⟩ : ∃ k rest, u.ks = k :: rest := List.exists_cons_of_ne_nil (by intro e; rw [e] at h0; simp at h0)
        have hke : u.ks[0] = k := by simp [hks]
        have HSU : Hid (stU U p.1 = if (U k).kd = 15 then U k else u) := by
          unfold stU
          rw [HUE.out, if_pos h9, hks]; exact rfl
        have hrow := HTY2.out.row3
        obtain ⟨b, o, cap, E1, e1, E2, e2, E3, e3, hv, hSb, ⟨g0, g1, g2, g3, g4, g5, g6⟩, hkr⟩ := hrow.at_ h0
        cases hv
        simp only [hke] at g0 g1 g2 g3 g4 g5 g6 hkr
        simp only [Nat.zero_mul, Nat.add_zero] at g0 g1 g2 g3 g4 g5 g6
        have hbl : b < w1.heap.size := hSb.2
        have hbw : W0.heap.size ≤ b := hSb.1
        have hln2 : (0 : Int) < (u.ks.length : Int) := by omega
        have hko : k.ok := by
          have := HUO.out
          obtain ⟨k', nm, n, f, ns, ms, ks⟩ := u
          simp only [T.ks] at hks
          rw [hks] at this
          exact this.2.2.2.2.2.2.2.1
        have HKR := Lib.hid hkr
        have HKO := Lib.hid hko
        have HBB : Hid (W0.heap.size ≤ b ∧ b < w1.heap.size) := ⟨hbw, hbl⟩
        obtain ⟨m, hm⟩ := HU.out k
        have HM := Lib.hid hm
        clear hkr hko hSb hm h9 hks hke hrow hbw
        obtain ⟨uk, huk⟩ : ∃ uk, U k = uk := ⟨_, rfl⟩
        rw [huk] at HSU HM
        clear huk
        go_wp2_with fail
        have HWX : Hid (WC w1 Sw g L) := HWC.out.below HX1.out
        refine (wunder_calls (L := L) (S := Sw) (S' := fun b => W0.heap.size ≤ b ∧ b < w1.heap.size) (t := k) (cs := [.int .i64 k.kd, .string k.nm, .int .i64 k.n, .bool k.fl, .slice E1 k.ns.length e1, .slice E2 k.ms.length e2, .slice E3 k.ks.length e3]) ((HWX.out.alloc _).alloc _) (HKR.out.keep (SameOn.of_below ((below_al _ _).alloc (by simp) _) (fun b hb => hb.2)) (fun _ h => h)) (fun b hb => by have := hb.2; simp; omega) HKO.out HM.out).mono ?_
        rintro e w2 ⟨h2, -⟩
        obtain ⟨F1, f1, F2, f2, F3, f3, rfl, -, hb2⟩ := h2.forms
        have hz2 := hb2.size
        simp at hz2
        have HX2 : Hid (Below w1.heap.size w1 w2) := ((below_al _ _).alloc (by simp) _).trans (hb2.mono (by simp; omega))
        have HC2 : Hid (Blk w2 w1.heap.size 26 #[.int .i64 u.kd, .string u.nm, .int .i64 u.n, .bool u.fl, .slice B1 u.ns.length d1, .slice B2 u.ms.length d2, .slice (some ⟨b, o, none⟩) u.ks.length d3]) := ((Blk.new w1 _ _).alloc _).below hb2 (by simp; omega)
        have HC3 : Hid (Blk w2 (w1.heap.size + 1) 26 #[.int .i64 k.kd, .string k.nm, .int .i64 k.n, .bool k.fl, .slice E1 k.ns.length e1, .slice E2 k.ms.length e2, .slice E3 k.ks.length e3]) := by
          refine Blk.below ?_ hb2 (by simp)
          simpa using Blk.new (w1.alloc _) _ _
        clear h2 hb2 g0 g1 g2 g3 g4 g5 g6
        have hfk := fieldK
        have HTY3 : Hid (TyR w2 (fun b => W0.heap.size ≤ b ∧ b < w1.heap.size) u [.int .i64 u.kd, .string u.nm, .int .i64 u.n, .bool u.fl, .slice B1 u.ns.length d1, .slice B2 u.ms.length d2, .slice (some ⟨b, o, none⟩) u.ks.length d3]) := HTY2.out.keep (SameOn.of_below HX2.out (fun b hb => hb.2)) (fun _ h => h)
        have HBC : Hid (Below W0.heap.size W0 w2) := HX1.out.trans (HX2.out.mono hz1)
        by_cases h15 : uk.kd = 15
        · have hb15 : (uk.kd == 15) = true := by simpa using h15
          have HSU2 : Hid (stU U p.1 = uk) := by rw [HSU.out, if_pos h15]; exact rfl
          clear HSU h15
          obtain ⟨n0, n1, n2, n3, n4, n5, n6, nf⟩ := HC3.out.cells7
          go_wp2_with fail
          have HWX2 : Hid (WC w2 Sw g L) := HWX.out.below HX2.out
          refine (wunder_calls (L := L) (S := Sw) (S' := fun b => W0.heap.size ≤ b ∧ b < w1.heap.size) (t := k) (cs := [.int .i64 k.kd, .string k.nm, .int .i64 k.n, .bool k.fl, .slice E1 k.ns.length e1, .slice E2 k.ms.length e2, .slice E3 k.ks.length e3]) HWX2.out (HKR.out.keep (SameOn.of_below HX2.out (fun b hb => hb.2)) (fun _ h => h)) (fun b hb => by have := hb.2; omega) HKO.out HM.out).mono ?_
          rintro e w3 ⟨h3, huo⟩
          obtain ⟨G1, u1, G2, u2, G3, u3, rfl, ht3, hb3⟩ := h3.forms
          have hz3 := hb3.size
          have HT3 := Lib.hid ht3
          have HX3 := Lib.hid hb3
          have HUO3 := Lib.hid huo
          have HC4 := Lib.hid (HC2.out.below hb3 (by omega))
          obtain ⟨m0, m1, m2, m3, m4, m5, m6, mf⟩ := HC4.out.cells7
          clear h3 ht3 hb3 huo n0 n1 n2 n3 n4 n5 n6 nf
          go_wp2_with fail
          go_meet
          refine ⟨uk, G1, u1, G2, u2, G3, u3, HSU2, HUO3, blk_set7 HC4.out _ _ _ _ _ _ _, HT3.out.keep ?_ (fun b hb => ⟨by have := hb.1; omega, by have := hb.2; simpa using this, by have := hb.1; omega⟩), ?_⟩
          · repeat (refine SameOn.set_ ?_ (fun h => by have := h.1; simp at this; omega) _)
            exact SameOn.refl _ _
          · repeat (refine Below.setCell ?_ (by simp; omega) _)
            exact HBC.out.trans (HX3.out.mono (by omega))
        · have hb15 : (uk.kd == 15) = false := by simpa using h15
          have HSU2 : Hid (stU U p.1 = u) := by rw [HSU.out, if_neg h15]; exact rfl
          clear HSU h15
          go_wp2_with fail
          go_meet
          exact ⟨u, B1, d1, B2, d2, _, d3, HSU2, HUO, HC2, HTY3.out.keep (SameOn.refl _ _) (fun b hb => ⟨hb.1, by have := hb.2; omega, by have := hb.2; omega⟩), HBC⟩
    case rest =>
      obtain ⟨r, E1, e1, E2, e2, E3, e3, HSU, HRO, HRB, HRT, HBR⟩ := hcut
      have hzR := HBR.out.size
      have hubl := HRB.out.lt
      have hkl : r.ks.length ≤ 1000000000 := by rw [← HSU.out]; exact HL.out.2.2.1
      have hkl2 : r.ks.length ≤ 9223372036854775807 := Nat.le_trans hkl (by omega)
      have hnl : r.ns.length ≤ 9223372036854775807 := by obtain ⟨_, _, _, hh⟩ := HRT.out.row1.form; exact hh
      have HST : Hid (StL S w wc rb B v1 wc v1 x1 (l ++ stM (ows p.1) p.2 (if p.1.kd = 8 then (lookD L p.1.nm).ms else []) ++ stF (ows p.1) r p.2 0) (.slice none 0 0) [] (stN r p.2 0)) :=
        ⟨by simpa [stF] using RowV.sx (vn' := .slice none 0 0) HR.out HBR.out hrl (.inl rfl), World.ownsRow_nil _ _ _ _, rfl, But.refl _ _, .inl rfl, .inl rfl⟩
      obtain ⟨l0, hl0⟩ : ∃ x, l ++ stM (ows p.1) p.2 (if p.1.kd = 8 then (lookD L p.1.nm).ms else []) = x := ⟨_, rfl⟩
      rw [hl0] at HST
      have HL0 := Lib.hid hl0
      clear hl0
      have HFIN : Hid (∀ (wr : World) (v2 : Value) (x2 : List Value) (s6 : Value) (xn : List Value) (n : Nat), StL S w wc rb B v1 wr v2 x2 (l0 ++ stF (ows p.1) r p.2 n) s6 xn (stN r p.2 n) → stLen r = n →
          RowV wr (Sx S w wr v2 s6) rb B v2 (l ++ stAll L U p) x2 ∧ wr.ownsRow w.heap.size 107 8 s6 (stNext U p).length xn ∧ AllR (PlR wr (Sx S w wr v2 s6)) (stNext U p) xn ∧ But (fun b => b = rb ∨ v.ownBlock = some b) w wr ∧ Own2 v v2 w.heap.size) := by
        intro wr v2 x2 s6 xn n hs hn
        have e1 : l ++ stAll L U p = l0 ++ stF (ows p.1) r p.2 n := by
          unfold stAll
          rw [← HL0.out, HSU.out, hn, List.append_assoc]
        have e2 : stNext U p = stN r p.2 n := by unfold stNext; rw [HSU.out, hn]
        rw [e1, e2]
        refine ⟨hs.row, hs.own, hs.nx, (HBX.out.trans (Y := fun _ => False) (But.of_below (HBR.out.mono (Nat.le_refl _))) (fun _ _ h => h.elim)).trans hs.but (fun i hi e => ?_), HO.out.trans hs.o1 (by omega)⟩
        rcases e with e | e
        · exact .inl e
        · rcases HO.out with e' | ⟨g', e', hg'⟩
          · exact .inr (e'.symm.trans e)
          · rw [e'] at e; simp at e; omega
      obtain ⟨k0, k1, k2, k3, k4, k5, k6, kf⟩ := HRB.out.cells7
      go_wp2_with fail
      go_loopg [6, 79] r.ks.length (fun m s6 i wr => ∃ (j : Nat) (v2 : Value) (x2 : List Value) (A6 : Option Addr) (c6 : Nat) (xn : List Value), m = r.ks.length - j ∧ j ≤ r.ks.length ∧ j ≤ r.ns.length ∧ i = .int .i64 j ∧ s6 = .slice A6 (stN r p.2 j).length c6 ∧
        Hid (StL S w wc rb B v1 wr v2 x2 (l0 ++ stF (ows p.1) r p.2 j) (.slice A6 (stN r p.2 j).length c6) xn (stN r p.2 j)))
      case atStart => exact ⟨0, v1, x1, none, 0, [], by simp, by omega, by omega, rfl, rfl, HST⟩
      case round =>
        obtain ⟨j, v2, x2, A6, c6, xn, rfl, hj, hjn, rfl, rfl, HS⟩ := hrel
        have hzr := HS.out.but.size
        have hsame : ∀ b, W0.heap.size ≤ b → b < wc.heap.size → wr.heap[b]? = wc.heap[b]? := fun b h1 h2 => HS.out.but.block b h2 fun e => e.elim (fun e => by omega) (fun e => by have := (HR.out.own.lt b e).2; omega)
        have HSA := Lib.hid hsame
        have HPL : Hid (Blk wr w.heap.size 107 #[.int .i64 p.1.kd, .string p.1.nm, .int .i64 p.1.n, .bool p.1.fl, .slice A1 p.1.ns.length c1, .slice A2 p.1.ms.length c2, .slice A3 p.1.ks.length c3, .slice A4 p.2.length c4]) := by
          have h1 := HB0.out.below HBR.out hB0l
          exact (HS.out.but.block _ h1.lt fun e => e.elim (fun e => by omega) (fun e => own_blk HR.out.own HB0.out (by decide) e)).trans h1
        have hub : Hid (Blk wr w1.heap.size 26 #[.int .i64 r.kd, .string r.nm, .int .i64 r.n, .bool r.fl, .slice E1 r.ns.length e1, .slice E2 r.ms.length e2, .slice E3 r.ks.length e3]) := (hsame _ hz1 hubl).trans HRB.out
        have HRT2 : Hid (TyR wr (fun b => W0.heap.size ≤ b ∧ b < wc.heap.size) r [.int .i64 r.kd, .string r.nm, .int .i64 r.n, .bool r.fl, .slice E1 r.ns.length e1, .slice E2 r.ms.length e2, .slice E3 r.ks.length e3]) := HRT.out.keep (fun b hb => hsame b hb.1 hb.2.1) (fun b hb => ⟨hb.1, hb.2.1⟩)
        have HN2 : Hid (∀ b, W0.heap.size ≤ b → (b < wc.heap.size ∨ wr.heap.size ≤ b) → v2.ownBlock ≠ some b ∧ (Value.slice A6 (stN r p.2 j).length c6).ownBlock ≠ some b) := by
          intro b h1 h2
          refine ⟨fun e => ?_, fun e => ?_⟩
          · have h3 := (HS.out.row.own.lt b e).2
            rcases HS.out.o1 with e' | ⟨g', e', hg'⟩
            · rw [e'] at e; have := (HR.out.own.lt b e).2; omega
            · rw [e'] at e; simp at e; omega
          · have h3 := (HS.out.own.lt b e).2
            rcases HS.out.o2 with e' | ⟨g', e', hg'⟩
            · rw [e'] at e; simp [Value.ownBlock] at e
            · rw [e'] at e; simp at e; omega
        have HNP : Hid (v2.ownBlock ≠ some w.heap.size) := own_blk HS.out.row.own HPL.out (by decide)
        have hroom : (l0 ++ stF (ows p.1) r p.2 j).length ≤ 3000000000 := by
          have h1 := stF_len (ows p.1) r p.2 j
          have h2 : l0.length ≤ 2000000000 := by
            rw [← HL0.out, List.length_append]
            have h3 := HL.out.1
            have h4 := HL.out.2.1
            simp only [stM, List.length_map]
            split
            · omega
            · simp; omega
          rw [List.length_append]
          omega
        have HROOM := Lib.hid hroom
        clear hroom
        have hul : w1.heap.size < wr.heap.size := by omega
        have hpl : w.heap.size < wr.heap.size := by omega
        clear k0 k1 k2 k3 k4 k5 k6 kf hsame
        obtain ⟨k0, k1, k2, k3, k4, k5, k6, kf⟩ := hub.out.cells7
        by_cases hlt : j < r.ks.length
        · have hr := HRT2.out.row3
          obtain ⟨b, o, cap, G1, u1, G2, u2, G3, u3, hv, hSb, ⟨g0, g1, g2, g3, g4, g5, g6⟩, hkr⟩ := hr.at_ hlt
          cases hv
          have hSb2 : W0.heap.size ≤ b ∧ b < wc.heap.size := hSb
          have HKR := Lib.hid hkr
          have hbl : b < wr.heap.size := by omega
          have hj3 : (j : Int) < (r.ks.length : Int) := by omega
          have hj4 : (0 : Int) ≤ (j : Int) := by omega
          clear hr hSb hkr
          by_cases hn : j < r.ns.length
          · have hn3 : (j : Int) < (r.ns.length : Int) := by omega
            obtain ⟨bn, on, capn, un, hvn, hSn, hun, hcn⟩ := HRT2.out.row1.at1 hn
            cases hvn
            have hSn2 : W0.heap.size ≤ bn ∧ bn < wc.heap.size := hSn
            have hbnl : bn < wr.heap.size := by omega
            obtain rfl : un = .string r.ns[j] := by simp [hn] at hun; exact hun.symm
            have hna : nAt r j = r.ns[j] := by unfold nAt; simp [hn]
            have hka : kAt r j = r.ks[j] := by unfold kAt; simp [hlt]
            have HNA := Lib.hid hna
            have HBN := Lib.hid hSn2
            have HKA := Lib.hid hka
            clear hSn hun hna hka hSb2 hSn2
            by_cases h15 : r.kd = 15
            · have hb15 : (r.kd == 15) = true := by simpa using h15
              have H15 := Lib.hid h15
              clear h15
              have HI : Hid (stI (ows p.1) r p.2 j = [(r.ns[j], ⟨10, ows p.1, r.ks[j], p.2, false, false⟩)]) := by unfold stI; rw [if_pos H15.out, HNA.out, HKA.out]; exact rfl
              have HJ : Hid (stJ r p.2 j = []) := by unfold stJ; rw [if_neg (fun h => by have := H15.out; omega)]; exact rfl
              have hS0 : (fun w' => w'.cell? ⟨w.heap.size, 7, none⟩ = some (.slice A4 p.2.length c4) ∧ w'.cell? ⟨w1.heap.size, 4, none⟩ = some (.slice (some ⟨bn, on, none⟩) r.ns.length e1) ∧ w'.cell? ⟨bn, on + j, none⟩ = some (.string r.ns[j]) ∧ w'.cell? ⟨wr.heap.size, 0, none⟩ = some (.int .i64 r.ks[j].kd) ∧ w'.cell? ⟨wr.heap.size, 1, none⟩ = some (.string r.ks[j].nm) ∧ w'.cell? ⟨wr.heap.size, 2, none⟩ = some (.int .i64 r.ks[j].n) ∧ w'.cell? ⟨wr.heap.size, 3, none⟩ = some (.bool r.ks[j].fl) ∧ w'.cell? ⟨wr.heap.size, 4, none⟩ = some (.slice G1 r.ks[j].ns.length u1) ∧ w'.cell? ⟨wr.heap.size, 5, none⟩ = some (.slice G2 r.ks[j].ms.length u2) ∧ w'.cell? ⟨wr.heap.size, 6, none⟩ = some (.slice G3 r.ks[j].ks.length u3)) ((wr.alloc (.cells #[.int .i64 r.ks[j].kd, .string r.ks[j].nm, .int .i64 r.ks[j].n, .bool r.ks[j].fl, .slice G1 r.ks[j].ns.length u1, .slice G2 r.ks[j].ms.length u2, .slice G3 r.ks[j].ks.length u3] 26)).drew) := by
                have hb0 : Below wr.heap.size wr ((wr.alloc (.cells #[.int .i64 r.ks[j].kd, .string r.ks[j].nm, .int .i64 r.ks[j].n, .bool r.ks[j].fl, .slice G1 r.ks[j].ns.length u1, .slice G2 r.ks[j].ms.length u2, .slice G3 r.ks[j].ks.length u3] 26)).drew) := (below_al wr _).drew
                have hbk : Blk ((wr.alloc (.cells #[.int .i64 r.ks[j].kd, .string r.ks[j].nm, .int .i64 r.ks[j].n, .bool r.ks[j].fl, .slice G1 r.ks[j].ns.length u1, .slice G2 r.ks[j].ms.length u2, .slice G3 r.ks[j].ks.length u3] 26)).drew) wr.heap.size 26 #[.int .i64 r.ks[j].kd, .string r.ks[j].nm, .int .i64 r.ks[j].n, .bool r.ks[j].fl, .slice G1 r.ks[j].ns.length u1, .slice G2 r.ks[j].ms.length u2, .slice G3 r.ks[j].ks.length u3] := (Blk.new wr _ _).drew
                exact ⟨(cell_below hb0 hpl).trans (HPL.out.cell 7), (cell_below hb0 hul).trans k4, (cell_below hb0 hbnl).trans hcn, hbk.cell 0, hbk.cell 1, hbk.cell 2, hbk.cell 3, hbk.cell 4, hbk.cell 5, hbk.cell 6⟩
              have HS0 := Lib.hid hS0
              have hstay : ∀ (w2 w3 : World) (R : Prop), (fun w' => w'.cell? ⟨w.heap.size, 7, none⟩ = some (.slice A4 p.2.length c4) ∧ w'.cell? ⟨w1.heap.size, 4, none⟩ = some (.slice (some ⟨bn, on, none⟩) r.ns.length e1) ∧ w'.cell? ⟨bn, on + j, none⟩ = some (.string r.ns[j]) ∧ w'.cell? ⟨wr.heap.size, 0, none⟩ = some (.int .i64 r.ks[j].kd) ∧ w'.cell? ⟨wr.heap.size, 1, none⟩ = some (.string r.ks[j].nm) ∧ w'.cell? ⟨wr.heap.size, 2, none⟩ = some (.int .i64 r.ks[j].n) ∧ w'.cell? ⟨wr.heap.size, 3, none⟩ = some (.bool r.ks[j].fl) ∧ w'.cell? ⟨wr.heap.size, 4, none⟩ = some (.slice G1 r.ks[j].ns.length u1) ∧ w'.cell? ⟨wr.heap.size, 5, none⟩ = some (.slice G2 r.ks[j].ms.length u2) ∧ w'.cell? ⟨wr.heap.size, 6, none⟩ = some (.slice G3 r.ks[j].ks.length u3)) w2 → (∀ b, b = w.heap.size ∨ b = w1.heap.size ∨ b = bn ∨ b = wr.heap.size → w3.heap[b]? = w2.heap[b]?) → (fun w' => w'.cell? ⟨w.heap.size, 7, none⟩ = some (.slice A4 p.2.length c4) ∧ w'.cell? ⟨w1.heap.size, 4, none⟩ = some (.slice (some ⟨bn, on, none⟩) r.ns.length e1) ∧ w'.cell? ⟨bn, on + j, none⟩ = some (.string r.ns[j]) ∧ w'.cell? ⟨wr.heap.size, 0, none⟩ = some (.int .i64 r.ks[j].kd) ∧ w'.cell? ⟨wr.heap.size, 1, none⟩ = some (.string r.ks[j].nm) ∧ w'.cell? ⟨wr.heap.size, 2, none⟩ = some (.int .i64 r.ks[j].n) ∧ w'.cell? ⟨wr.heap.size, 3, none⟩ = some (.bool r.ks[j].fl) ∧ w'.cell? ⟨wr.heap.size, 4, none⟩ = some (.slice G1 r.ks[j].ns.length u1) ∧ w'.cell? ⟨wr.heap.size, 5, none⟩ = some (.slice G2 r.ks[j].ms.length u2) ∧ w'.cell? ⟨wr.heap.size, 6, none⟩ = some (.slice G3 r.ks[j].ks.length u3)) w3 := fun w2 w3 _ h hb =>
                ⟨(World.cell?_of_block (a := ⟨w.heap.size, 7, none⟩) (hb _ (.inl rfl))).trans h.1, (World.cell?_of_block (a := ⟨w1.heap.size, 4, none⟩) (hb _ (.inr (.inl rfl)))).trans h.2.1, (World.cell?_of_block (a := ⟨bn, on + j, none⟩) (hb _ (.inr (.inr (.inl rfl))))).trans h.2.2.1,
                  (World.cell?_of_block (a := ⟨wr.heap.size, 0, none⟩) (hb _ (.inr (.inr (.inr rfl))))).trans h.2.2.2.1, (World.cell?_of_block (a := ⟨wr.heap.size, 1, none⟩) (hb _ (.inr (.inr (.inr rfl))))).trans h.2.2.2.2.1, (World.cell?_of_block (a := ⟨wr.heap.size, 2, none⟩) (hb _ (.inr (.inr (.inr rfl))))).trans h.2.2.2.2.2.1, (World.cell?_of_block (a := ⟨wr.heap.size, 3, none⟩) (hb _ (.inr (.inr (.inr rfl))))).trans h.2.2.2.2.2.2.1,
                  (World.cell?_of_block (a := ⟨wr.heap.size, 4, none⟩) (hb _ (.inr (.inr (.inr rfl))))).trans h.2.2.2.2.2.2.2.1, (World.cell?_of_block (a := ⟨wr.heap.size, 5, none⟩) (hb _ (.inr (.inr (.inr rfl))))).trans h.2.2.2.2.2.2.2.2.1, (World.cell?_of_block (a := ⟨wr.heap.size, 6, none⟩) (hb _ (.inr (.inr (.inr rfl))))).trans h.2.2.2.2.2.2.2.2.2⟩
              have HSTAY := Lib.hid hstay
              have HX4 := Lib.hid k4
              have HXN := Lib.hid hcn
              clear hstay hS0
              have hS0 := HS0.out
              go_wp2_with fail
              clear k0 k1 k2 k3 k4 k5 k6 kf hcn g0 g1 g2 g3 g4 g5 g6
              go_region_held3 (fun w' => w'.cell? ⟨w.heap.size, 7, none⟩ = some (.slice A4 p.2.length c4) ∧ w'.cell? ⟨w1.heap.size, 4, none⟩ = some (.slice (some ⟨bn, on, none⟩) r.ns.length e1) ∧ w'.cell? ⟨bn, on + j, none⟩ = some (.string r.ns[j]) ∧ w'.cell? ⟨wr.heap.size, 0, none⟩ = some (.int .i64 r.ks[j].kd) ∧ w'.cell? ⟨wr.heap.size, 1, none⟩ = some (.string r.ks[j].nm) ∧ w'.cell? ⟨wr.heap.size, 2, none⟩ = some (.int .i64 r.ks[j].n) ∧ w'.cell? ⟨wr.heap.size, 3, none⟩ = some (.bool r.ks[j].fl) ∧ w'.cell? ⟨wr.heap.size, 4, none⟩ = some (.slice G1 r.ks[j].ns.length u1) ∧ w'.cell? ⟨wr.heap.size, 5, none⟩ = some (.slice G2 r.ks[j].ms.length u2) ∧ w'.cell? ⟨wr.heap.size, 6, none⟩ = some (.slice G3 r.ks[j].ks.length u3)) (first | exact hS0 | exact hS2 | exact hS3)
                (first
                  | (go_at_call 87
                     refine (clone_ints _ (fun b => S b) _ _ _ (HP.out.row.keep (HSW.out.trans (SameOn.of_below HBR.out (fun b hb => by have := (HV.out.far b hb).1; omega)) |>.trans (HS.out.but.sameOn (fun b hb => ⟨by have := (HV.out.far b hb).1; omega, fun e => e.elim (HV.out.far b hb).2.1 (HR.out.far b (.inl hb)).2.2⟩)) |>.trans (SameOn.of_below ((below_al wr _).drew) (fun b hb => by have := (HV.out.far b hb).1; omega)))) (fun b hb => by have := (HV.out.far b hb).1; simp; omega) (one_ints _) (by have := HL.out.2.2.2; omega)).mono ?_
                     rintro e w2 ⟨v5, rfl, ho5, -, hb5⟩
                     obtain ⟨A5, c5, rfl⟩ := own_form ho5
                     have hz5 := hb5.size
                     simp at hz5
                     have hb52 : Below wr.heap.size wr w2 := (below_al wr _).drew.trans (hb5.mono (by simp))
                     have HB52 := Lib.hid hb52
                     have HS2 : Hid (StL S w wc rb B v1 w2 v2 x2 (l0 ++ stF (ows p.1) r p.2 j) (.slice A6 (stN r p.2 j).length c6) xn (stN r p.2 j)) := HS.out.below hb52 hrl
                     have HO5 := Lib.hid ho5
                     have hS2 := HSTAY.out _ w2 True HS0.out (fun b hb => hb5.block b (by simp; omega))
                     clear hb52 ho5 hb5 hS0)
                  | (go_at_call 80
                     refine (tell_calls (S := Sx S w w2 v2 (.slice A6 (stN r p.2 j).length c6)) (x := (r.ns[j], ⟨10, ows p.1, r.ks[j], p.2, false, false⟩)) HS2.out.row (cf := [.int .i64 10, .string (ows p.1), .int .i64 r.ks[j].kd, .string r.ks[j].nm, .int .i64 r.ks[j].n, .bool r.ks[j].fl, .slice G1 r.ks[j].ns.length u1, .slice G2 r.ks[j].ms.length u2, .slice G3 r.ks[j].ks.length u3, .slice A5 p.2.length c5, .bool false, .bool false]) ?fd ?room).mono ?_
                     case fd =>
                       refine ⟨[.int .i64 r.ks[j].kd, .string r.ks[j].nm, .int .i64 r.ks[j].n, .bool r.ks[j].fl, .slice G1 r.ks[j].ns.length u1, .slice G2 r.ks[j].ms.length u2, .slice G3 r.ks[j].ks.length u3], _, rfl, ?_, ?_⟩
                       · refine HKR.out.keep (SameOn.of_below HB52.out (fun b hb => by have := hb.2; omega)) (fun b hb => .inr ⟨by have := hb.1; omega, by have := hb.2; omega, HN2.out b hb.1 (.inl hb.2)⟩)
                       · refine Row.of_own HO5.out (fun b hb => ?_)
                         have h1 := HO5.out.lt b hb
                         simp at h1
                         exact .inr ⟨by omega, h1.2, HN2.out b (by omega) (.inr (by omega))⟩
                     case room =>
                       have := HROOM.out
                       omega
                     rintro e w3 ⟨rfl, v3, x3, h3, hb3, ho3⟩
                     have HS3 := Lib.hid (HS2.out.tell h3 hb3 ho3 hrl)
                     have hS3 := HSTAY.out _ w3 True hS2 (fun b hb => hb3.block b (by omega) (fun e => by
                       rcases hb with rfl | rfl | rfl | rfl
                       · exact e.elim (fun e => by omega) HNP.out
                       · exact e.elim (fun e => by omega) (HN2.out _ hz1 (.inl hubl)).1
                       · exact e.elim (fun e => by have := HBN.out.1; omega) (HN2.out _ HBN.out.1 (.inl HBN.out.2)).1
                       · exact e.elim (fun e => by omega) (HN2.out _ (by omega) (.inr (Nat.le_refl _))).1))
                     clear h3 hb3 ho3 hS2))
              all_goals
                go_wp2_with fail
                go_roundg (r.ks.length - (j + 1))
                case measure => omega
                case rel =>
                  refine ⟨j + 1, v3, x3, A6, c6, xn, rfl, by omega, by omega, by go_num, ?_, ?_⟩
                  · rw [stN, HJ.out, List.append_nil]
                  · rw [stN, HJ.out, List.append_nil, stF, HI.out, ← List.append_assoc]
                    exact HS3.out
            · have hb15 : (r.kd == 15) = false := by simpa using h15
              by_cases h14 : r.kd = 14
              · have hb14 : (r.kd == 14) = true := by simpa using h14
                have HI : Hid (stI (ows p.1) r p.2 j = [(r.ns[j], ⟨7, ows p.1, r.ks[j], p.2 ++ [(j : Int)], false, false⟩)]) := by unfold stI; rw [if_neg h15, if_pos h14, HNA.out, HKA.out]; exact rfl
                have HJ0 : Hid (∀ c : Bool, r.ms[j]? = some c → stJ r p.2 j = if c = true then [(r.ks[j], p.2 ++ [(j : Int)])] else []) := by
                  intro c hc
                  unfold stJ
                  rw [hc, HKA.out]
                  cases c
                  · rw [if_neg (by simp), if_neg (by simp)]
                  · rw [if_pos ⟨h14, rfl⟩, if_pos rfl]
                have HJ1 : Hid (r.ms[j]? = none → stJ r p.2 j = []) := by
                  intro hc
                  unfold stJ
                  rw [hc, if_neg (fun h => by cases h.2)]
                clear h14 h15
                have HPK := HPL.out.cell 7
                have hk7 : wr.cell? ⟨w.heap.size, 7, none⟩ = some (.slice A4 p.2.length c4) := HPL.out.cell 7
                clear HPK
                go_wp2_with fail
                refine (clone_ints _ (fun b => S b) _ _ _ (HP.out.row.keep (HSW.out.trans (SameOn.of_below HBR.out (fun b hb => by have := (HV.out.far b hb).1; omega)) |>.trans (HS.out.but.sameOn (fun b hb => ⟨by have := (HV.out.far b hb).1; omega, fun e => e.elim (HV.out.far b hb).2.1 (HR.out.far b (.inl hb)).2.2⟩)) |>.trans (SameOn.of_below (below_al wr _) (fun b hb => by have := (HV.out.far b hb).1; omega)))) (fun b hb => by have := (HV.out.far b hb).1; simp; omega) (one_ints _) (by have := HL.out.2.2.2; omega)).mono ?_
                rintro e w2 ⟨v5, rfl, ho5, -, hb5⟩
                obtain ⟨A5, c5, rfl⟩ := own_form ho5
                have hz5 := hb5.size
                simp at hz5
                have ho5' : w2.ownsRow (wr.heap.size + 1) 3 1 (.slice A5 p.2.length c5) p.2.length (p.2.map (.int .i64)) := by simpa using ho5
                have HO5 := Lib.hid ho5'
                have HB5 : Hid (Below wr.heap.size wr w2) := (below_al wr _).trans (hb5.mono (by simp))
                have HK2 : Hid (Blk w2 wr.heap.size 26 #[.int .i64 r.ks[j].kd, .string r.ks[j].nm, .int .i64 r.ks[j].n, .bool r.ks[j].fl, .slice G1 r.ks[j].ns.length u1, .slice G2 r.ks[j].ms.length u2, .slice G3 r.ks[j].ks.length u3]) := (Blk.new wr _ _).below hb5 (by simp)
                have HU4 := Lib.hid k4
                have HU5 := Lib.hid k5
                have HCN := Lib.hid hcn
                obtain ⟨i0, hi, hz0, hz1', hz2⟩ := info_parts info_ints
                clear ho5 ho5' hb5 k0 k1 k2 k3 k4 k5 k6 kf hcn g0 g1 g2 g3 g4 g5 g6 hk7
                go_wp2_with (at_builtin; refine wpList_append_row _ rfl _ _ 56 rfl (wr.heap.size + 1) 3 i0 _ 1 8 Try.underlying56 hi hz0 hz1' hz2 rfl (by omega) (.slice A5 p.2.length c5) p.2.length (p.2.map (.int .i64)) rfl ?c1 (fun b => b = w2.heap.size) (.slice (some ⟨w2.heap.size, 0, none⟩) 1 1) 1 [.int .i64 j] rfl ?c2 ?c3 ?c4 ?c5 ?c6 ?_)
                case c1 => exact HO5.out.alloc _
                case c2 => exact row_lit w2 _ 1 rfl (by unfold maxLen; omega)
                case c3 => intro u hu; simp only [List.mem_cons, List.not_mem_nil, or_false] at hu; subst hu; rfl
                case c4 => have := HL.out.2.2.2; unfold maxLen; omega
                case c5 => have := HL.out.2.2.2; omega
                case c6 => simp; omega
                intro v6 w3 hown hg hnil hat
                clear hnil hat hi hz0 hz1' hz2
                obtain ⟨A7, c7, rfl⟩ := own_form hown
                have hb3 : Below wr.heap.size wr w3 := (HB5.out.alloc (by omega) _).grown hg (by simp; omega) (fun k hk => by have := (HO5.out.lt k hk).1; omega)
                have hz3 := hb3.size
                have hz32 := hg.size
                simp at hz32
                have HPR : Hid (Row w3 (fun b => wr.heap.size + 1 ≤ b ∧ b < w3.heap.size) 1 (.slice A7 (p.2.length + 1) c7) (p.2 ++ [(j : Int)]).length ((p.2 ++ [(j : Int)]).map (.int .i64))) := by
                  rw [List.length_append, List.map_append]
                  exact Row.of_own hown (fun b hb => hown.lt b hb)
                have HK3 : Hid (Blk w3 wr.heap.size 26 #[.int .i64 r.ks[j].kd, .string r.ks[j].nm, .int .i64 r.ks[j].n, .bool r.ks[j].fl, .slice G1 r.ks[j].ns.length u1, .slice G2 r.ks[j].ms.length u2, .slice G3 r.ks[j].ks.length u3]) := (HK2.out.alloc _).grown hg (fun e => by have := (HO5.out.lt wr.heap.size e.symm).1; omega)
                have HB3 := Lib.hid hb3
                have HS2 := Lib.hid (HS.out.below hb3 hrl)
                have hS0 : (fun w' => w'.cell? ⟨w1.heap.size, 4, none⟩ = some (.slice (some ⟨bn, on, none⟩) r.ns.length e1) ∧ w'.cell? ⟨bn, on + j, none⟩ = some (.string r.ns[j]) ∧ w'.cell? ⟨wr.heap.size, 0, none⟩ = some (.int .i64 r.ks[j].kd) ∧ w'.cell? ⟨wr.heap.size, 1, none⟩ = some (.string r.ks[j].nm) ∧ w'.cell? ⟨wr.heap.size, 2, none⟩ = some (.int .i64 r.ks[j].n) ∧ w'.cell? ⟨wr.heap.size, 3, none⟩ = some (.bool r.ks[j].fl) ∧ w'.cell? ⟨wr.heap.size, 4, none⟩ = some (.slice G1 r.ks[j].ns.length u1) ∧ w'.cell? ⟨wr.heap.size, 5, none⟩ = some (.slice G2 r.ks[j].ms.length u2) ∧ w'.cell? ⟨wr.heap.size, 6, none⟩ = some (.slice G3 r.ks[j].ks.length u3)) (w3.drew) := ⟨(cell_below hb3.drew hul).trans HU4.out, (cell_below hb3.drew hbnl).trans HCN.out, HK3.out.cell 0, HK3.out.cell 1, HK3.out.cell 2, HK3.out.cell 3, HK3.out.cell 4, HK3.out.cell 5, HK3.out.cell 6⟩
                clear hown hg hb3 HO5 HB5 HK2
                go_wp2_with fail
                go_region_held3 (fun w' => w'.cell? ⟨w1.heap.size, 4, none⟩ = some (.slice (some ⟨bn, on, none⟩) r.ns.length e1) ∧ w'.cell? ⟨bn, on + j, none⟩ = some (.string r.ns[j]) ∧ w'.cell? ⟨wr.heap.size, 0, none⟩ = some (.int .i64 r.ks[j].kd) ∧ w'.cell? ⟨wr.heap.size, 1, none⟩ = some (.string r.ks[j].nm) ∧ w'.cell? ⟨wr.heap.size, 2, none⟩ = some (.int .i64 r.ks[j].n) ∧ w'.cell? ⟨wr.heap.size, 3, none⟩ = some (.bool r.ks[j].fl) ∧ w'.cell? ⟨wr.heap.size, 4, none⟩ = some (.slice G1 r.ks[j].ns.length u1) ∧ w'.cell? ⟨wr.heap.size, 5, none⟩ = some (.slice G2 r.ks[j].ms.length u2) ∧ w'.cell? ⟨wr.heap.size, 6, none⟩ = some (.slice G3 r.ks[j].ks.length u3)) (first | exact hS0 | exact hS3)
                  (first
                    | (go_at_call 80
                       refine (tell_calls (S := Sx S w w3 v2 (.slice A6 (stN r p.2 j).length c6)) (x := (r.ns[j], ⟨7, ows p.1, r.ks[j], p.2 ++ [(j : Int)], false, false⟩)) (HS2.out.below ((Below.refl _ _).drew) hrl).row (cf := [.int .i64 7, .string (ows p.1), .int .i64 r.ks[j].kd, .string r.ks[j].nm, .int .i64 r.ks[j].n, .bool r.ks[j].fl, .slice G1 r.ks[j].ns.length u1, .slice G2 r.ks[j].ms.length u2, .slice G3 r.ks[j].ks.length u3, .slice A7 (p.2.length + 1) c7, .bool false, .bool false]) ?fd ?room).mono ?_
                       case fd =>
                         refine ⟨[.int .i64 r.ks[j].kd, .string r.ks[j].nm, .int .i64 r.ks[j].n, .bool r.ks[j].fl, .slice G1 r.ks[j].ns.length u1, .slice G2 r.ks[j].ms.length u2, .slice G3 r.ks[j].ks.length u3], _, rfl, ?_, ?_⟩
                         · exact HKR.out.keep (SameOn.of_below HB3.out.drew (fun b hb => by have := hb.2; omega)) (fun b hb => .inr ⟨by have := hb.1; omega, by have := hb.2; omega, HN2.out b hb.1 (.inl hb.2)⟩)
                         · exact (HPR.out.keep (SameOn.refl _ _)).more (fun b hb => .inr ⟨by omega, hb.2, HN2.out b (by omega) (.inr (by omega))⟩)
                       case room =>
                         have := HROOM.out
                         omega
                       rintro e w4 ⟨rfl, v3, x3, h3, hb4, ho3⟩
                       have HS4 := Lib.hid ((HS2.out.below ((Below.refl _ _).drew) hrl).tell h3 hb4 ho3 hrl)
                       have HO3 := Lib.hid ho3
                       have HF4 : Hid (∀ b, (W0.heap.size ≤ b ∧ b < wc.heap.size) ∨ (wr.heap.size ≤ b ∧ b < w3.heap.size) → w4.heap[b]? = w3.heap[b]?) := by
                         intro b hb
                         refine hb4.block b (by rcases hb with hb | hb; exact (by have := hb.2; show b < w3.heap.size; omega); exact hb.2) fun e => ?_
                         rcases e with e | e
                         · rcases hb with hb | hb <;> omega
                         · rcases hb with hb | hb
                           · exact (HN2.out b hb.1 (.inl hb.2)).1 e
                           · exact (HN2.out b (by omega) (.inr hb.1)).1 e
                       have hz4 : w3.heap.size ≤ w4.heap.size := hb4.size
                       have hS3 : (fun w' => w'.cell? ⟨w1.heap.size, 4, none⟩ = some (.slice (some ⟨bn, on, none⟩) r.ns.length e1) ∧ w'.cell? ⟨bn, on + j, none⟩ = some (.string r.ns[j]) ∧ w'.cell? ⟨wr.heap.size, 0, none⟩ = some (.int .i64 r.ks[j].kd) ∧ w'.cell? ⟨wr.heap.size, 1, none⟩ = some (.string r.ks[j].nm) ∧ w'.cell? ⟨wr.heap.size, 2, none⟩ = some (.int .i64 r.ks[j].n) ∧ w'.cell? ⟨wr.heap.size, 3, none⟩ = some (.bool r.ks[j].fl) ∧ w'.cell? ⟨wr.heap.size, 4, none⟩ = some (.slice G1 r.ks[j].ns.length u1) ∧ w'.cell? ⟨wr.heap.size, 5, none⟩ = some (.slice G2 r.ks[j].ms.length u2) ∧ w'.cell? ⟨wr.heap.size, 6, none⟩ = some (.slice G3 r.ks[j].ks.length u3)) w4 := by
                         have hk : Blk w4 wr.heap.size 26 #[.int .i64 r.ks[j].kd, .string r.ks[j].nm, .int .i64 r.ks[j].n, .bool r.ks[j].fl, .slice G1 r.ks[j].ns.length u1, .slice G2 r.ks[j].ms.length u2, .slice G3 r.ks[j].ks.length u3] := (HF4.out _ (.inr ⟨Nat.le_refl _, by have := HK3.out.lt; omega⟩)).trans HK3.out
                         exact ⟨(World.cell?_of_block (a := ⟨w1.heap.size, 4, none⟩) (HF4.out _ (.inl ⟨hz1, hubl⟩))).trans hS0.1, (World.cell?_of_block (a := ⟨bn, on + j, none⟩) (HF4.out _ (.inl HBN.out))).trans hS0.2.1, hk.cell 0, hk.cell 1, hk.cell 2, hk.cell 3, hk.cell 4, hk.cell 5, hk.cell 6⟩
                       clear h3 hb4 ho3 hS0)
                    | fail)
                all_goals
                  obtain ⟨q4, qn, q0, q1, q2, q3, q4', q5, q6⟩ := hS3
                  have hu5 : w4.cell? ⟨w1.heap.size, 5, none⟩ = some (.slice E2 r.ms.length e2) := (World.cell?_of_block (a := ⟨w1.heap.size, 5, none⟩) (HF4.out _ (.inl ⟨hz1, hubl⟩))).trans ((cell_below HB3.out hul).trans HU5.out)
                  have hml : r.ms.length ≤ 9223372036854775807 := by obtain ⟨_, _, _, hh⟩ := HRT.out.row2.form; exact hh
                  by_cases hmk : j < r.ms.length
                  · obtain ⟨bm, om, capm, um, hvm, hSm, hum, hcm⟩ := HRT2.out.row2.at1 hmk
                    cases hvm
                    have hSm2 : W0.heap.size ≤ bm ∧ bm < wc.heap.size := hSm
                    obtain rfl : um = .bool r.ms[j] := by simp [hmk] at hum; exact hum.symm
                    have hmc : w4.cell? ⟨bm, om + j, none⟩ = some (.bool r.ms[j]) := (World.cell?_of_block (a := ⟨bm, om + j, none⟩) (HF4.out _ (.inl hSm2))).trans ((cell_below HB3.out (by omega)).trans hcm)
                    have hm3 : (j : Int) < (r.ms.length : Int) := by omega
                    have hme : r.ms[j]? = some r.ms[j] := List.getElem?_eq_getElem hmk
                    obtain ⟨c, hc⟩ : ∃ c, r.ms[j] = c := ⟨_, rfl⟩
                    rw [hc] at hmc hme
                    have HJ := Lib.hid (HJ0.out c hme)
                    clear hSm hum hcm hme hc
                    cases c with
                    | false =>
                      have HJX : Hid (stJ r p.2 j = []) := HJ.out.trans (if_neg (by simp))
                      go_wp2_with fail
                      go_roundg (r.ks.length - (j + 1))
                      case measure => omega
                      case rel =>
                        refine ⟨j + 1, v3, x3, A6, c6, xn, rfl, by omega, by omega, by go_num, ?_, ?_⟩
                        · rw [stN, HJX.out, List.append_nil]
                        · rw [stN, HJX.out, List.append_nil, stF, HI.out, ← List.append_assoc]
                          exact HS4.out
                    | true =>
                      have HJX : Hid (stJ r p.2 j = [(r.ks[j], p.2 ++ [(j : Int)])]) := HJ.out.trans (if_pos rfl)
                      obtain ⟨i0, hi, hz0, hz1', hz2⟩ := info_parts info_place
                      have hxl := stN_len r p.2 j
                      have hpt : PlR (w4.alloc (.cells #[.int .i64 r.ks[j].kd, .string r.ks[j].nm, .int .i64 r.ks[j].n, .bool r.ks[j].fl, .slice G1 r.ks[j].ns.length u1, .slice G2 r.ks[j].ms.length u2, .slice G3 r.ks[j].ks.length u3, .slice A7 (p.2.length + 1) c7] 107)) (Sx S w (w4.alloc (.cells #[.int .i64 r.ks[j].kd, .string r.ks[j].nm, .int .i64 r.ks[j].n, .bool r.ks[j].fl, .slice G1 r.ks[j].ns.length u1, .slice G2 r.ks[j].ms.length u2, .slice G3 r.ks[j].ks.length u3, .slice A7 (p.2.length + 1) c7] 107)) v3 (.slice A6 (stN r p.2 j).length c6)) (r.ks[j], p.2 ++ [(j : Int)]) [.int .i64 r.ks[j].kd, .string r.ks[j].nm, .int .i64 r.ks[j].n, .bool r.ks[j].fl, .slice G1 r.ks[j].ns.length u1, .slice G2 r.ks[j].ms.length u2, .slice G3 r.ks[j].ks.length u3, .slice A7 (p.2.length + 1) c7] := by
                        have hn3 : ∀ b, (W0.heap.size ≤ b ∧ b < wc.heap.size) ∨ (wr.heap.size ≤ b ∧ b < w3.heap.size) → Sx S w (w4.alloc (.cells #[.int .i64 r.ks[j].kd, .string r.ks[j].nm, .int .i64 r.ks[j].n, .bool r.ks[j].fl, .slice G1 r.ks[j].ns.length u1, .slice G2 r.ks[j].ms.length u2, .slice G3 r.ks[j].ks.length u3, .slice A7 (p.2.length + 1) c7] 107)) v3 (.slice A6 (stN r p.2 j).length c6) b := by
                          intro b hb
                          have h1 := HN2.out b (by rcases hb with hb | hb <;> omega) (by rcases hb with hb | hb; exact .inl hb.2; exact .inr hb.1)
                          refine .inr ⟨by rcases hb with hb | hb <;> omega, by simp; rcases hb with hb | hb <;> omega, ?_, h1.2⟩
                          rcases HO3.out with e | ⟨g, e, hg⟩
                          · rw [e]; exact h1.1
                          · rw [e]; intro e2; simp at e2 hg; rcases hb with hb | hb <;> omega
                        refine ⟨[.int .i64 r.ks[j].kd, .string r.ks[j].nm, .int .i64 r.ks[j].n, .bool r.ks[j].fl, .slice G1 r.ks[j].ns.length u1, .slice G2 r.ks[j].ms.length u2, .slice G3 r.ks[j].ks.length u3], _, rfl, ?_, ?_⟩
                        · refine HKR.out.keep (SameOn.trans (b := w3) (SameOn.of_below HB3.out (fun b hb => by have := hb.2; omega)) (SameOn.trans (b := w4) (fun b hb => HF4.out b (.inl hb)) (SameOn.of_below (below_al w4 _) (fun b hb => by have := hb.2; omega)))) (fun b hb => hn3 b (.inl hb))
                        · exact (HPR.out.keep (SameOn.trans (b := w4) (fun b hb => HF4.out b (.inr ⟨by have := hb.1; omega, hb.2⟩)) (SameOn.of_below (below_al w4 _) (fun b hb => by have := hb.2; omega)))).more (fun b hb => hn3 b (.inr ⟨by omega, hb.2⟩))
                      have HPT := Lib.hid hpt
                      clear hpt
                      go_wp2_with (at_builtin; refine wpList_append_row _ rfl _ _ 108 rfl w.heap.size 107 i0 _ 8 136 Try.underlying108 hi hz0 hz1' hz2 rfl (by omega) (.slice A6 (stN r p.2 j).length c6) (stN r p.2 j).length xn rfl ?c1 (fun b => b = w4.heap.size) (.slice (some ⟨w4.heap.size, 0, none⟩) 1 1) 1 [.int .i64 r.ks[j].kd, .string r.ks[j].nm, .int .i64 r.ks[j].n, .bool r.ks[j].fl, .slice G1 r.ks[j].ns.length u1, .slice G2 r.ks[j].ms.length u2, .slice G3 r.ks[j].ks.length u3, .slice A7 (p.2.length + 1) c7] rfl ?c2 ?c3 ?c4 ?c5 ?c6 ?_)
                      case c1 => exact HS4.out.own.alloc _
                      case c2 => exact row_lit w4 _ 1 rfl (by unfold maxLen; omega)
                      case c3 => exact ⟨rfl, rfl, rfl, rfl, rfl, rfl, rfl, rfl⟩
                      case c4 => unfold maxLen; omega
                      case c5 => omega
                      case c6 => omega
                      intro v7 w5 hown hg hnil hat
                      have HS5 := Lib.hid ((HS4.out.below (below_al w4 _) hrl).next hown hg (by simpa using hat) HPT.out hrl (fun b hb => (HV.out.far b hb).1))
                      obtain ⟨A9, c9, rfl⟩ := own_form hown
                      clear hnil hat hi hz0 hz1' hz2 hown hg
                      go_wp2_with fail
                      go_roundg (r.ks.length - (j + 1))
                      case measure => omega
                      case rel =>
                        refine ⟨j + 1, v3, x3, A9, c9, xn ++ [.int .i64 r.ks[j].kd, .string r.ks[j].nm, .int .i64 r.ks[j].n, .bool r.ks[j].fl, .slice G1 r.ks[j].ns.length u1, .slice G2 r.ks[j].ms.length u2, .slice G3 r.ks[j].ks.length u3, .slice A7 (p.2.length + 1) c7], rfl, by omega, by omega, by go_num, ?_, ?_⟩
                        · rw [stN, HJX.out, List.length_append]; rfl
                        · rw [stN, HJX.out, stF, HI.out, ← List.append_assoc, List.length_append]
                          exact HS5.out
                  · have hm3 : ¬ ((j : Int) < (r.ms.length : Int)) := by omega
                    have HJ : Hid (stJ r p.2 j = []) := HJ1.out (by simp; omega)
                    clear hmk
                    go_wp2_with fail
                    go_roundg (r.ks.length - (j + 1))
                    case measure => omega
                    case rel =>
                      refine ⟨j + 1, v3, x3, A6, c6, xn, rfl, by omega, by omega, by go_num, ?_, ?_⟩
                      · rw [stN, HJ.out, List.append_nil]
                      · rw [stN, HJ.out, List.append_nil, stF, HI.out, ← List.append_assoc]
                        exact HS4.out
              · have hb14 : (r.kd == 14) = false := by simpa using h14
                have HI : Hid (stI (ows p.1) r p.2 j = []) := by unfold stI; rw [if_neg h15, if_neg h14]; exact rfl
                have HJ : Hid (stJ r p.2 j = []) := by unfold stJ; rw [if_neg (fun h => h14 h.1)]; exact rfl
                clear h14 h15
                go_wp2_with fail
                go_roundg (r.ks.length - (j + 1))
                case measure => omega
                case rel =>
                  refine ⟨j + 1, v2, x2, A6, c6, xn, rfl, by omega, by omega, by go_num, ?_, ?_⟩
                  · rw [stN, HJ.out, List.append_nil]
                  · rw [stN, HJ.out, List.append_nil, stF, HI.out, List.append_nil]
                    exact HS.out.below (below_al _ _) hrl
          · obtain rfl : j = r.ns.length := by omega
            have HLEN : Hid (stLen r = r.ns.length) := by unfold stLen Hid; omega
            clear hn
            go_wp2_with fail
            go_ret
            obtain ⟨h1, h2, h3, h4, h5⟩ := HFIN.out _ _ _ _ _ _ (HS.out.below (below_al _ _) hrl) HLEN.out
            exact ⟨_, _, _, _, rfl, h1, h2, h3, h4, h5⟩
        · obtain rfl : j = r.ks.length := by omega
          have HLEN : Hid (stLen r = r.ks.length) := by unfold stLen Hid; omega
          clear hlt hj
          go_wp2_with fail
          go_ret
          obtain ⟨h1, h2, h3, h4, h5⟩ := HFIN.out _ _ _ _ _ _ HS.out HLEN.out
          exact ⟨_, _, _, _, rfl, h1, h2, h3, h4, h5⟩
end Go.Proofs.Ytanhdklaponekaa
