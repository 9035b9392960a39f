/- What an argument reads as: an api.Type in memory as data, by induction on the reading's fuel. -/
import Derived.Test.YtanhdklaponekaaBase
import Derived.Test.YtanhdklaponekaaRows
import Derived.ProofKit
import Derived.SizedLaws
namespace Go.Proofs.Ytanhdklaponekaa
open Go Go.RowKit Go.ChangeShapes Go.WideShapes Go.ChangeAt

theorem spot_of_cell {w : World} {q : Addr} {v : Value} (h : w.cell? q = some v) : q.spot = none := by
  unfold World.cell? at h
  split at h
  · split at h
    · cases h
    · rename_i hs; simpa using hs
  · cases h
theorem lt_of_cell {w : World} {q : Addr} {v : Value} (h : w.cell? q = some v) : q.block < w.heap.size := by
  rcases Nat.lt_or_ge q.block w.heap.size with hlt | hge
  · exact hlt
  · unfold World.cell? at h; rw [Array.getElem?_eq_none hge] at h; cases h
theorem add_plain {b o : Nat} (n : Nat) : Addr.add ⟨b, o, none⟩ n = ⟨b, o + n, none⟩ := by
  unfold Addr.add
  split
  · rename_i h; subst h; rfl
  · rfl

/-- a list of things, each on its own cells -/
def AllR {α : Type} (Q : α → List Value → Prop) : List α → List Value → Prop
  | [], cs => cs = []
  | t :: ts, cs => ∃ c1 c2, cs = c1 ++ c2 ∧ Q t c1 ∧ AllR Q ts c2
theorem AllR.snoc {α : Type} {Q : α → List Value → Prop} {y : α} {ds : List Value} (hy : Q y ds) : ∀ {ts : List α} {cs : List Value}, AllR Q ts cs → AllR Q (ts ++ [y]) (cs ++ ds)
  | [], cs, h => by simp only [AllR] at h; subst h; exact ⟨ds, [], by simp, hy, rfl⟩
  | t :: ts, cs, h => by
    obtain ⟨c1, c2, rfl, h1, h2⟩ := h
    exact ⟨c1, c2 ++ ds, by simp, h1, AllR.snoc hy h2⟩

/-- n elements of k cells, each read: the row as a whole -/
theorem gather {α : Type} {Q : α → List Value → Prop} {w : World} {b o k : Nat} : ∀ (n : Nat), (∀ i, i < n → ∃ y cs, cs.length = k ∧ (∀ j, j < k → w.cell? ⟨b, o + (i * k + j), none⟩ = cs[j]?) ∧ Q y cs) →
    ∃ ys xs, ys.length = n ∧ xs.length = n * k ∧ (∀ j u, xs[j]? = some u → w.cell? ⟨b, o + j, none⟩ = some u) ∧ AllR Q ys xs
  | 0, _ => ⟨[], [], rfl, by simp, fun j u h => by simp at h, rfl⟩
  | n + 1, h => by
    obtain ⟨ys, xs, h1, h2, h3, h4⟩ := gather n fun i hi => h i (by omega)
    obtain ⟨y, cs, g1, g2, g3⟩ := h n (by omega)
    refine ⟨ys ++ [y], xs ++ cs, by simp [h1], by simp only [List.length_append, h2, g1]; rw [Nat.add_mul, Nat.one_mul], fun j u hj => ?_, h4.snoc g3⟩
    rcases Nat.lt_or_ge j xs.length with hlt | hge
    · rw [List.getElem?_append_left hlt] at hj; exact h3 j u hj
    · rw [List.getElem?_append_right hge] at hj
      have hl : j - xs.length < cs.length := by
        rcases Nat.lt_or_ge (j - xs.length) cs.length with x | x
        · exact x
        · rw [List.getElem?_eq_none x] at hj; cases hj
      have := g2 (j - xs.length) (by omega)
      rw [hj, show n * k + (j - xs.length) = j from by omega] at this
      exact this

section
variable {H : Type} {enc : TypeId × Value → H} {P : Program} {w : World} {fuel : Nat} {held : Bool} {sp : Nat → Bool}

theorem weights_all {e : TypeId} : ∀ {l : List (DataW H)} {d : DataW H}, d ∈ l → ∀ n ∈ d.weights P e, n ∈ DataW.weightsAll P e l
  | x :: l, d, hd, n, hn => by
    simp only [DataW.weightsAll, List.mem_append]
    rcases List.mem_cons.1 hd with rfl | hd
    · exact .inl hn
    · exact .inr (weights_all hd n hn)

/-- a slice that reads: its row; Q what each element gives -/
theorem read_slice {t e : TypeId} {k : Nat} {α : Type} {Q : α → List Value → Prop} {cs : List Value} {x : DataW H × List MemPlace} (ht : P.underlying t = some (.slice e)) (hk : P.cellsOf e = k) (hk0 : 0 < k)
    (h : DataW.trod enc P w 0 sp held fuel t cs = some x) (hw : ∀ n ∈ x.1.weights P t, n ≤ reachBytes)
    (hq : ∀ n cs y, fuel = n + 1 → DataW.trod enc P w 0 sp held n e cs = some y → (∀ n ∈ y.1.weights P e, n ≤ reachBytes) → ∃ a, Q a cs) :
    ∃ v ys xs, cs = [v] ∧ Row w (fun b => b < w.heap.size) k v ys.length xs ∧ AllR Q ys xs ∧ ys.length * P.bytesOf e ≤ reachBytes := by
  rcases DataW.trod_slice ht h with ⟨rfl, rfl⟩ | ⟨a, len, cap, elems, rest, n, hf, rfl, rfl, -, hlc, hcm, hel, hget, -⟩
  · exact ⟨_, [], [], rfl, Row.nil_, rfl, by simp⟩
  · simp only [DataW.weights, ht, List.mem_cons, List.mem_append, List.length_map] at hw
    have hb : (elems.length + rest.length) * P.bytesOf e ≤ reachBytes := hw _ (.inl rfl)
    have hlb : len * P.bytesOf e ≤ reachBytes := Nat.le_trans (Nat.mul_le_mul_right _ (by omega)) hb
    rw [hk] at hget
    rcases Nat.eq_zero_or_pos len with rfl | hp
    · exact ⟨_, [], [], rfl, ⟨by simp, _, cap, rfl, Nat.zero_le _, hcm, (fun e => by cases e), fun h => absurd h (by simp)⟩, rfl, by simp⟩
    · obtain ⟨b, o, s⟩ := a
      have hs : s = none ∧ b < w.heap.size := by
        have h0 := hget 0 hp
        rw [List.getElem?_eq_getElem (by omega), Option.bind_eq_some_iff] at h0
        obtain ⟨c0, g1, -⟩ := h0
        obtain ⟨-, g2, g3⟩ := World.cells?_some g1
        have g4 := g3 0 hk0
        rw [List.getElem?_eq_getElem (by omega)] at g4
        simp only [Nat.zero_mul, Addr.add, if_true] at g4
        exact ⟨spot_of_cell g4, lt_of_cell g4⟩
      obtain ⟨rfl, hbl⟩ := hs
      obtain ⟨ys, xs, h1, h2, h3, h4⟩ := gather (Q := Q) (w := w) (b := b) (o := o) (k := k) len fun i hi => by
        have h0 := hget i hi
        rw [List.getElem?_eq_getElem (by omega), Option.bind_eq_some_iff] at h0
        obtain ⟨c0, g1, g5⟩ := h0
        obtain ⟨-, g2, g3⟩ := World.cells?_some g1
        obtain ⟨y, hy⟩ := hq n c0 _ hf g5 (fun m hm => hw m (.inr (.inl (weights_all (List.mem_map_of_mem (List.getElem_mem (by omega))) m hm))))
        refine ⟨y, c0, g2, fun j hj => ?_, hy⟩
        have := g3 j hj
        rw [add_plain, add_plain, Nat.add_assoc] at this
        exact this
      exact ⟨_, ys, xs, rfl, ⟨by rw [h2, h1], some ⟨b, o, none⟩, cap, by rw [h1], by omega, hcm, (fun e => by cases e), fun _ => ⟨b, o, rfl, hbl, h3⟩⟩, h4, by rw [h1]; exact hlb⟩
end

theorem allR_strs : ∀ {ys : List ByteArray} {xs : List Value}, AllR (fun (s : ByteArray) cs => cs = [.string s] ∧ s.size ≤ Lim) ys xs → xs = ys.map .string ∧ ∀ s ∈ ys, s.size ≤ Lim
  | [], xs, h => ⟨h, by simp⟩
  | y :: ys, xs, h => by
    obtain ⟨c1, c2, rfl, ⟨rfl, h1⟩, h2⟩ := h
    obtain ⟨rfl, h3⟩ := allR_strs h2
    exact ⟨rfl, fun s hs => (List.mem_cons.1 hs).elim (fun e => e ▸ h1) (h3 s)⟩
theorem allR_bools : ∀ {ys : List Bool} {xs : List Value}, AllR (fun (s : Bool) cs => cs = [.bool s]) ys xs → xs = ys.map .bool
  | [], xs, h => h
  | y :: ys, xs, h => by
    obtain ⟨c1, c2, rfl, rfl, h2⟩ := h
    rw [allR_bools h2]; rfl
theorem allR_types {w : World} {S : Nat → Prop} : ∀ {ys : List T} {xs : List Value}, AllR (fun t cs => TyR w S t cs ∧ t.ok) ys xs → TysR w S ys xs ∧ T.okL ys
  | [], xs, h => by simp only [TysR, T.okL]; exact ⟨h, trivial⟩
  | y :: ys, xs, h => by
    obtain ⟨c1, c2, rfl, ⟨h0, h1⟩, h2⟩ := h
    obtain ⟨h3, h4⟩ := allR_types h2
    simp only [TysR, T.okL]
    exact ⟨⟨c1, c2, rfl, h0, h3⟩, h1, h4⟩

section
variable {H : Type} {enc : TypeId × Value → H} {w : World} {held : Bool} {sp : Nat → Bool}
theorem size_data (s : ByteArray) : s.data.toList.length = s.size := by rw [Array.length_toList]; rfl
theorem i64ok_of {n : Int} (h : (Lit.int .i64 n).wf = true) : i64ok n := by
  simp [Lit.wf, IntKind.min, IntKind.max, IntKind.bits, IntKind.signed] at h
  unfold i64ok; omega

theorem each_at {P : Program} {ts : List TypeId} {ds : List (DataW H)} (h : ∀ n ∈ DataW.weightsEach P ts ds, n ≤ reachBytes) {j : Nat} {t : TypeId} {d : DataW H} (h1 : ts[j]? = some t) (h2 : ds[j]? = some d) :
    ∀ n ∈ d.weights P t, n ≤ reachBytes := fun n hn => h n (DataW.weights_mem_each h1 h2 n hn)

theorem read_string {t : TypeId} {fuel : Nat} {cs : List Value} {x : DataW H × List MemPlace} (ht : Try.prog.underlying t = some .string) (h : DataW.trod enc Try.prog w 0 sp held fuel t cs = some x)
    (hw : ∀ n ∈ x.1.weights Try.prog t, n ≤ reachBytes) : ∃ s : ByteArray, cs = [.string s] ∧ s.size ≤ Lim := by
  obtain ⟨s, rfl, rfl, -⟩ := DataW.trod_string ht h
  refine ⟨s, rfl, ?_⟩
  have := hw s.data.toList.length (by simp [DataW.weights])
  rw [size_data] at this
  unfold reachBytes at this; unfold Lim; omega

theorem cells_str : Try.prog.cellsOf 9 = 1 := by kernel_rfl
theorem cells_bool : Try.prog.cellsOf 4 = 1 := by kernel_rfl
theorem cells_type : Try.prog.cellsOf 26 = 7 := by kernel_rfl
theorem bytes_str : Try.prog.bytesOf 9 = 16 := by kernel_rfl
theorem bytes_bool : Try.prog.bytesOf 4 = 1 := by kernel_rfl
theorem bytes_type : Try.prog.bytesOf 26 = 112 := by kernel_rfl

theorem read_type : ∀ (fuel : Nat) {cs : List Value} {x : DataW H × List MemPlace}, DataW.trod enc Try.prog w 0 sp held fuel 26 cs = some x →
    (∀ n ∈ x.1.weights Try.prog 26, n ≤ reachBytes) → ∃ t : T, TyR w (fun b => b < w.heap.size) t cs ∧ t.ok := by
  intro fuel
  induction fuel using Nat.strongRecOn with
  | ind fuel ih =>
  intro cs x h hw
  obtain ⟨xs, n, rfl, rfl, hl, hxl, hf⟩ := DataW.trod_struct Try.underlying26 h
  rw [cells_type] at hl
  obtain ⟨c0, c1, c2, c3, c4, c5, c6, rfl⟩ := list7 hl
  simp only [DataW.weights, Try.underlying26] at hw
  have hx : xs.length = 7 := hxl
  have H7 : ∀ (i : Nat) (f : Field) (c : Value), (#[{ name := "Kind", type := 3, offset := 0, embedded := false, tag := "", pkgPath := "", byteOffset := 0 },
        { name := "Name", type := 9, offset := 1, embedded := false, tag := "", pkgPath := "", byteOffset := 8 },
        { name := "N", type := 3, offset := 2, embedded := false, tag := "", pkgPath := "", byteOffset := 24 },
        { name := "Flag", type := 4, offset := 3, embedded := false, tag := "", pkgPath := "", byteOffset := 32 },
        { name := "Names", type := 22, offset := 4, embedded := false, tag := "", pkgPath := "", byteOffset := 40 },
        { name := "Marks", type := 23, offset := 5, embedded := false, tag := "", pkgPath := "", byteOffset := 64 },
        { name := "Kids", type := 24, offset := 6, embedded := false, tag := "", pkgPath := "", byteOffset := 88 }] : Array Field)[i]? = some f →
      ([c0, c1, c2, c3, c4, c5, c6].drop f.offset).take (Try.prog.cellsOf f.type) = [c] → ∃ y, DataW.trod enc Try.prog w 0 sp held n f.type [c] = some y ∧ ∀ m ∈ y.1.weights Try.prog f.type, m ≤ reachBytes := by
    intro i f c hi hc
    have h1 := hf i f hi
    have hi7 : i < 7 := by
      rcases Nat.lt_or_ge i 7 with hh | hh
      · exact hh
      · rw [Array.getElem?_eq_none (by simpa using hh)] at hi; cases hi
    rw [hc, List.getElem?_eq_getElem (by omega)] at h1
    refine ⟨_, h1, each_at hw (j := i) ?_ ?_⟩
    · rw [List.getElem?_map, Array.getElem?_toList, hi]; rfl
    · rw [List.getElem?_map, List.getElem?_eq_getElem (by omega)]; rfl
  have ci : Try.prog.cellsOf 3 = 1 := by kernel_rfl
  have cs' : Try.prog.cellsOf 22 = 1 := by kernel_rfl
  have cb' : Try.prog.cellsOf 23 = 1 := by kernel_rfl
  have ct' : Try.prog.cellsOf 24 = 1 := by kernel_rfl
  obtain ⟨y0, r0, w0⟩ := H7 0 _ c0 rfl (by simp [ci])
  obtain ⟨y1, r1, w1⟩ := H7 1 _ c1 rfl (by simp [cells_str])
  obtain ⟨y2, r2, w2⟩ := H7 2 _ c2 rfl (by simp [ci])
  obtain ⟨y3, r3, w3⟩ := H7 3 _ c3 rfl (by simp [cells_bool])
  obtain ⟨y4, r4, w4⟩ := H7 4 _ c4 rfl (by simp [cs'])
  obtain ⟨y5, r5, w5⟩ := H7 5 _ c5 rfl (by simp [cb'])
  obtain ⟨y6, r6, w6⟩ := H7 6 _ c6 rfl (by simp [ct'])
  clear H7 hf hw h
  obtain ⟨k, e0, -, ok0⟩ := DataW.trod_int Try.underlying3 r0
  obtain ⟨nm, e1, ok1⟩ := read_string Try.underlying9 r1 w1
  obtain ⟨m, e2, -, ok2⟩ := DataW.trod_int Try.underlying3 r2
  obtain ⟨fl, e3, -⟩ := DataW.trod_bool Try.underlying4 r3
  obtain ⟨v4, ns, x4, e4, R4, A4, B4⟩ := read_slice (Q := fun (s : ByteArray) cs => cs = [.string s] ∧ s.size ≤ Lim) Try.underlying22 cells_str (by omega) r4 w4 fun _ _ _ _ g gw => read_string Try.underlying9 g gw
  obtain ⟨v5, ms, x5, e5, R5, A5, B5⟩ := read_slice (Q := fun (s : Bool) cs => cs = [.bool s]) Try.underlying23 cells_bool (by omega) r5 w5 fun _ _ _ _ g _ => by
    obtain ⟨u, hu, -⟩ := DataW.trod_bool Try.underlying4 g
    exact ⟨u, hu⟩
  obtain ⟨v6, ks, x6, e6, R6, A6, B6⟩ := read_slice (Q := fun (t : T) cs => TyR w (fun b => b < w.heap.size) t cs ∧ t.ok) Try.underlying24 cells_type (by omega) r6 w6 fun n' _ _ hn g gw => ih n' (by omega) g gw
  obtain ⟨rfl, o4⟩ := allR_strs A4
  obtain rfl := allR_bools A5
  obtain ⟨t6, o6⟩ := allR_types A6
  rw [bytes_str] at B4
  rw [bytes_bool] at B5
  rw [bytes_type] at B6
  cases e0; cases e1; cases e2; cases e3; cases e4; cases e5; cases e6
  unfold reachBytes at B4 B5 B6
  refine ⟨.mk k nm m fl ns ms ks, ?_, ?_⟩
  · simp only [TyR]
    exact ⟨_, _, _, x6, rfl, R4, R5, R6, t6⟩
  · rw [T.ok]
    refine ⟨i64ok_of ok0, i64ok_of ok2, ok1, o4, ?_, ?_, ?_, o6⟩ <;> unfold Lim <;> omega

/-- a []api.Type argument -/
theorem read_types {v : Value} {d : DataW H} {ps : List MemPlace} {fuel : Nat} (h : DataW.trod enc Try.prog w 0 sp held fuel 24 [v] = some (d, ps)) (hw : ∀ n ∈ d.weights Try.prog 24, n ≤ reachBytes) :
    ∃ ts : List T, RowT w (fun b => b < w.heap.size) v ts ∧ T.okL ts ∧ ts.length * 112 ≤ Lim := by
  obtain ⟨v6, ks, x6, e6, R6, A6, B6⟩ := read_slice (Q := fun (t : T) cs => TyR w (fun b => b < w.heap.size) t cs ∧ t.ok) Try.underlying24 cells_type (by omega) h hw fun n' _ _ _ g gw => read_type n' g gw
  obtain ⟨t6, o6⟩ := allR_types A6
  rw [bytes_type] at B6
  unfold reachBytes at B6
  cases e6
  exact ⟨ks, ⟨x6, R6, t6⟩, o6, by unfold Lim; omega⟩

/-- a []string argument -/
theorem read_strings {v : Value} {d : DataW H} {ps : List MemPlace} {fuel : Nat} (h : DataW.trod enc Try.prog w 0 sp held fuel 22 [v] = some (d, ps)) (hw : ∀ n ∈ d.weights Try.prog 22, n ≤ reachBytes) :
    ∃ ns : List ByteArray, Row w (fun b => b < w.heap.size) 1 v ns.length (ns.map .string) ∧ (∀ s ∈ ns, s.size ≤ Lim) ∧ ns.length * 16 ≤ Lim := by
  obtain ⟨v4, ns, x4, e4, R4, A4, B4⟩ := read_slice (Q := fun (s : ByteArray) cs => cs = [.string s] ∧ s.size ≤ Lim) Try.underlying22 cells_str (by omega) h hw fun _ _ _ _ g gw => read_string Try.underlying9 g gw
  obtain ⟨rfl, o4⟩ := allR_strs A4
  rw [bytes_str] at B4
  unfold reachBytes at B4
  cases e4
  exact ⟨ns, R4, o4, by unfold Lim; omega⟩
end
end Go.Proofs.Ytanhdklaponekaa
