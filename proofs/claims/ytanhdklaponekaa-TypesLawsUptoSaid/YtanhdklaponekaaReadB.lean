/- What an argument reads as, and how much it is: a type's weight is at most sixteen times its bulk. -/
import Derived.Test.YtanhdklaponekaaRead
import Derived.Test.YtanhdklaponekaaTLaw
namespace Go.Proofs.Ytanhdklaponekaa
open Go Go.RowKit Go.ChangeShapes Go.WideShapes Go.ChangeAt

theorem bulkAll_sum {H : Type} (l : List (DataW H)) : Rows.uptoBulkAll l = (l.map Rows.uptoBulk).sum := by
  induction l with
  | nil => simp [Rows.uptoBulkAll]
  | cons x l ih => simp only [Rows.uptoBulkAll, ih, List.map_cons, List.sum_cons]
theorem bulk_one {H : Type} (d : DataW H) : 1 ≤ Rows.uptoBulk d := by
  cases d with
  | lit l => cases l <;> simp [Rows.uptoBulk]
  | nil => simp [Rows.uptoBulk]
  | ptr d => simp [Rows.uptoBulk]
  | slice elems spare => simp [Rows.uptoBulk]
  | agg parts => simp [Rows.uptoBulk]
  | iface t d => simp [Rows.uptoBulk]
  | map entries => simp [Rows.uptoBulk]
  | held h => simp [Rows.uptoBulk]

/-- n elements of k cells, each read and weighed: the row as a whole -/
theorem gatherB {α : Type} {Q : α → List Value → Prop} {m : α → Nat} {g : Nat → Nat} {w : World} {b o k : Nat} : ∀ (n : Nat), (∀ i, i < n → ∃ y cs, cs.length = k ∧ (∀ j, j < k → w.cell? ⟨b, o + (i * k + j), none⟩ = cs[j]?) ∧ Q y cs ∧ m y ≤ g i) →
    ∃ ys xs, ys.length = n ∧ xs.length = n * k ∧ (∀ j u, xs[j]? = some u → w.cell? ⟨b, o + j, none⟩ = some u) ∧ AllR Q ys xs ∧ (ys.map m).sum ≤ ((List.range n).map g).sum
  | 0, _ => ⟨[], [], rfl, by simp, fun j u h => by simp at h, rfl, by simp⟩
  | n + 1, h => by
    obtain ⟨ys, xs, h1, h2, h3, h4, h5⟩ := gatherB (g := g) n fun i hi => h i (by omega)
    obtain ⟨y, cs, g1, g2, g3, g4⟩ := h n (by omega)
    refine ⟨ys ++ [y], xs ++ cs, by simp [h1], by simp only [List.length_append, h2, g1]; rw [Nat.add_mul, Nat.one_mul], fun j u hj => ?_, h4.snoc g3, ?_⟩
    · rcases Nat.lt_or_ge j xs.length with hlt | hge
      · rw [List.getElem?_append_left hlt] at hj; exact h3 j u hj
      · rw [List.getElem?_append_right hge] at hj
        have hl : j - xs.length < cs.length := by
          rcases Nat.lt_or_ge (j - xs.length) cs.length with x | x
          · exact x
          · rw [List.getElem?_eq_none x] at hj; cases hj
        have := g2 (j - xs.length) (by omega)
        rw [hj, show n * k + (j - xs.length) = j from by omega] at this
        exact this
    · rw [List.range_succ, List.map_append, List.map_append, List.sum_append, List.sum_append]
      simp only [List.map_cons, List.map_nil, List.sum_cons, List.sum_nil]
      omega

section
variable {H : Type} {enc : TypeId × Value → H} {P : Program} {w : World} {fuel : Nat} {held : Bool} {sp : Nat → Bool}
/-- a slice that reads: its row; Q what each element gives; m its weight -/
theorem read_sliceB {t e : TypeId} {k : Nat} {α : Type} {Q : α → List Value → Prop} {m : α → Nat} {cs : List Value} {x : DataW H × List MemPlace} (ht : P.underlying t = some (.slice e)) (hk : P.cellsOf e = k) (hk0 : 0 < k)
    (h : DataW.trod enc P w 0 sp held fuel t cs = some x) (hw : ∀ n ∈ x.1.weights P t, n ≤ reachBytes)
    (hq : ∀ n cs y, fuel = n + 1 → DataW.trod enc P w 0 sp held n e cs = some y → (∀ n ∈ y.1.weights P e, n ≤ reachBytes) → ∃ a, Q a cs ∧ m a ≤ 16 * Rows.uptoBulk y.1) :
    ∃ v ys xs, cs = [v] ∧ Row w (fun b => b < w.heap.size) k v ys.length xs ∧ AllR Q ys xs ∧ ys.length * P.bytesOf e ≤ reachBytes ∧ (ys.map m).sum + 16 ≤ 16 * Rows.uptoBulk x.1 := by
  rcases DataW.trod_slice ht h with ⟨rfl, rfl⟩ | ⟨a, len, cap, elems, rest, n, hf, rfl, rfl, -, hlc, hcm, hel, hget, -⟩
  · exact ⟨_, [], [], rfl, Row.nil_, rfl, by simp, by simp [Rows.uptoBulk]⟩
  · simp only [DataW.weights, ht, List.mem_cons, List.mem_append, List.length_map] at hw
    have hb : (elems.length + rest.length) * P.bytesOf e ≤ reachBytes := hw _ (.inl rfl)
    have hlb : len * P.bytesOf e ≤ reachBytes := Nat.le_trans (Nat.mul_le_mul_right _ (by omega)) hb
    rw [hk] at hget
    rcases Nat.eq_zero_or_pos len with rfl | hp
    · exact ⟨_, [], [], rfl, ⟨by simp, _, cap, rfl, Nat.zero_le _, hcm, (fun e => by cases e), fun h => absurd h (by simp)⟩, rfl, by simp, by simp only [Rows.uptoBulk, List.map_nil, List.sum_nil]; omega⟩
    · obtain ⟨b, o, s⟩ := a
      have hs : s = none ∧ b < w.heap.size := by
        have h0 := hget 0 hp
        rw [List.getElem?_eq_getElem (by omega), Option.bind_eq_some_iff] at h0
        obtain ⟨c0, g1, -⟩ := h0
        obtain ⟨-, g2, g3⟩ := World.cells?_some g1
        have g4 := g3 0 hk0
        rw [List.getElem?_eq_getElem (by omega)] at g4
        simp only [Nat.zero_mul, Addr.add, if_true] at g4
        exact ⟨spot_of_cell g4, lt_of_cell g4⟩
      obtain ⟨rfl, hbl⟩ := hs
      obtain ⟨ys, xs, h1, h2, h3, h4, h5⟩ := gatherB (Q := Q) (m := m) (g := fun i => 16 * Rows.uptoBulk (((elems.map (·.1))[i]?).getD .nil)) (w := w) (b := b) (o := o) (k := k) len fun i hi => by
        have h0 := hget i hi
        rw [List.getElem?_eq_getElem (by omega), Option.bind_eq_some_iff] at h0
        obtain ⟨c0, g1, g5⟩ := h0
        obtain ⟨-, g2, g3⟩ := World.cells?_some g1
        obtain ⟨y, hy, hm⟩ := hq n c0 _ hf g5 (fun m hm => hw m (.inr (.inl (weights_all (List.mem_map_of_mem (List.getElem_mem (by omega))) m hm))))
        refine ⟨y, c0, g2, fun j hj => ?_, hy, ?_⟩
        · have := g3 j hj
          rw [add_plain, add_plain, Nat.add_assoc] at this
          exact this
        · rw [List.getElem?_map, List.getElem?_eq_getElem (by omega)]
          exact hm
      have h6 := sum_range (elems.map (·.1)) (.nil : DataW H) (fun d => 16 * Rows.uptoBulk d) len (by rw [List.length_map]; omega)
      rw [List.take_of_length_le (by rw [List.length_map]; omega)] at h6
      have h7 : ∀ l : List (DataW H), (l.map (fun d => 16 * Rows.uptoBulk d)).sum = 16 * Rows.uptoBulkAll l := by
        intro l
        rw [bulkAll_sum]
        induction l with
        | nil => simp
        | cons x l ih => simp only [List.map_cons, List.sum_cons, ih]; omega
      rw [h7] at h6
      refine ⟨_, ys, xs, rfl, ⟨by rw [h2, h1], some ⟨b, o, none⟩, cap, by rw [h1], by omega, hcm, (fun e => by cases e), fun _ => ⟨b, o, rfl, hbl, h3⟩⟩, h4, by rw [h1]; exact hlb, ?_⟩
      simp only [Rows.uptoBulk]
      omega
end

section
variable {H : Type} {enc : TypeId × Value → H} {w : World} {held : Bool} {sp : Nat → Bool}
theorem read_stringB {t : TypeId} {fuel : Nat} {cs : List Value} {x : DataW H × List MemPlace} (ht : Try.prog.underlying t = some .string) (h : DataW.trod enc Try.prog w 0 sp held fuel t cs = some x)
    (hw : ∀ n ∈ x.1.weights Try.prog t, n ≤ reachBytes) : ∃ s : ByteArray, (cs = [.string s] ∧ s.size ≤ Lim) ∧ s.size + 1 ≤ Rows.uptoBulk x.1 := by
  obtain ⟨s, rfl, rfl, -⟩ := DataW.trod_string ht h
  have := hw s.data.toList.length (by simp [DataW.weights])
  rw [size_data] at this
  refine ⟨s, ⟨rfl, by unfold reachBytes at this; unfold Lim; omega⟩, ?_⟩
  simp only [Rows.uptoBulk]
  rw [size_data]
  exact Nat.le_refl _
theorem sum8 (l : List T) : (l.map (fun t => wt t + 8)).sum = (l.map wt).sum + 8 * l.length := by
  induction l with
  | nil => simp
  | cons x l ih => simp only [List.map_cons, List.sum_cons, List.length_cons, ih]; omega

theorem read_typeB : ∀ (fuel : Nat) {cs : List Value} {x : DataW H × List MemPlace}, DataW.trod enc Try.prog w 0 sp held fuel 26 cs = some x →
    (∀ n ∈ x.1.weights Try.prog 26, n ≤ reachBytes) → ∃ t : T, (TyR w (fun b => b < w.heap.size) t cs ∧ t.ok) ∧ wt t + 8 ≤ 16 * Rows.uptoBulk x.1 := by
  intro fuel
  induction fuel using Nat.strongRecOn with
  | ind fuel ih =>
  intro cs x h hw
  obtain ⟨xs, n, rfl, rfl, hl, hxl, hf⟩ := DataW.trod_struct Try.underlying26 h
  rw [cells_type] at hl
  obtain ⟨c0, c1, c2, c3, c4, c5, c6, rfl⟩ := list7 hl
  simp only [DataW.weights, Try.underlying26] at hw
  have hx : xs.length = 7 := hxl
  obtain ⟨z0, z1, z2, z3, z4, z5, z6, rfl⟩ : ∃ z0 z1 z2 z3 z4 z5 z6, xs = [z0, z1, z2, z3, z4, z5, z6] := by
    match xs, hx with
    | [z0, z1, z2, z3, z4, z5, z6], _ => exact ⟨z0, z1, z2, z3, z4, z5, z6, rfl⟩
  have H7 : ∀ (i : Nat) (f : Field) (c : Value) (z : DataW H × List MemPlace), (#[{ name := "Kind", type := 3, offset := 0, embedded := false, tag := "", pkgPath := "", byteOffset := 0 },
        { name := "Name", type := 9, offset := 1, embedded := false, tag := "", pkgPath := "", byteOffset := 8 },
        { name := "N", type := 3, offset := 2, embedded := false, tag := "", pkgPath := "", byteOffset := 24 },
        { name := "Flag", type := 4, offset := 3, embedded := false, tag := "", pkgPath := "", byteOffset := 32 },
        { name := "Names", type := 22, offset := 4, embedded := false, tag := "", pkgPath := "", byteOffset := 40 },
        { name := "Marks", type := 23, offset := 5, embedded := false, tag := "", pkgPath := "", byteOffset := 64 },
        { name := "Kids", type := 24, offset := 6, embedded := false, tag := "", pkgPath := "", byteOffset := 88 }] : Array Field)[i]? = some f →
      [z0, z1, z2, z3, z4, z5, z6][i]? = some z →
      ([c0, c1, c2, c3, c4, c5, c6].drop f.offset).take (Try.prog.cellsOf f.type) = [c] → DataW.trod enc Try.prog w 0 sp held n f.type [c] = some z ∧ ∀ m ∈ z.1.weights Try.prog f.type, m ≤ reachBytes := by
    intro i f c z hi hz hc
    have h1 := hf i f hi
    rw [hc, hz] at h1
    refine ⟨h1, each_at hw (j := i) ?_ ?_⟩
    · rw [List.getElem?_map, Array.getElem?_toList, hi]; rfl
    · rw [List.getElem?_map, hz]; rfl
  have ci : Try.prog.cellsOf 3 = 1 := by kernel_rfl
  have cs' : Try.prog.cellsOf 22 = 1 := by kernel_rfl
  have cb' : Try.prog.cellsOf 23 = 1 := by kernel_rfl
  have ct' : Try.prog.cellsOf 24 = 1 := by kernel_rfl
  obtain ⟨r0, w0⟩ := H7 0 _ c0 z0 rfl rfl (by simp [ci])
  obtain ⟨r1, w1⟩ := H7 1 _ c1 z1 rfl rfl (by simp [cells_str])
  obtain ⟨r2, w2⟩ := H7 2 _ c2 z2 rfl rfl (by simp [ci])
  obtain ⟨r3, w3⟩ := H7 3 _ c3 z3 rfl rfl (by simp [cells_bool])
  obtain ⟨r4, w4⟩ := H7 4 _ c4 z4 rfl rfl (by simp [cs'])
  obtain ⟨r5, w5⟩ := H7 5 _ c5 z5 rfl rfl (by simp [cb'])
  obtain ⟨r6, w6⟩ := H7 6 _ c6 z6 rfl rfl (by simp [ct'])
  clear H7 hf hw h
  obtain ⟨k, e0, -, ok0⟩ := DataW.trod_int Try.underlying3 r0
  obtain ⟨nm, ⟨e1, ok1⟩, m1⟩ := read_stringB Try.underlying9 r1 w1
  obtain ⟨m, e2, -, ok2⟩ := DataW.trod_int Try.underlying3 r2
  obtain ⟨fl, e3, -⟩ := DataW.trod_bool Try.underlying4 r3
  obtain ⟨v4, ns, x4, e4, R4, A4, B4, M4⟩ := read_sliceB (Q := fun (s : ByteArray) cs => cs = [.string s] ∧ s.size ≤ Lim) (m := fun s : ByteArray => s.size) Try.underlying22 cells_str (by omega) r4 w4 fun _ _ _ _ g gw => by
    obtain ⟨s, h1, h2⟩ := read_stringB Try.underlying9 g gw
    exact ⟨s, h1, by omega⟩
  obtain ⟨v5, ms, x5, e5, R5, A5, B5, M5⟩ := read_sliceB (Q := fun (s : Bool) cs => cs = [.bool s]) (m := fun _ => 0) Try.underlying23 cells_bool (by omega) r5 w5 fun _ _ _ _ g _ => by
    obtain ⟨u, hu, -⟩ := DataW.trod_bool Try.underlying4 g
    exact ⟨u, hu, Nat.zero_le _⟩
  obtain ⟨v6, ks, x6, e6, R6, A6, B6, M6⟩ := read_sliceB (Q := fun (t : T) cs => TyR w (fun b => b < w.heap.size) t cs ∧ t.ok) (m := fun t => wt t + 8) Try.underlying24 cells_type (by omega) r6 w6 fun n' _ _ hn g gw => ih n' (by omega) g gw
  obtain ⟨rfl, o4⟩ := allR_strs A4
  obtain rfl := allR_bools A5
  obtain ⟨t6, o6⟩ := allR_types A6
  rw [bytes_str] at B4
  rw [bytes_bool] at B5
  rw [bytes_type] at B6
  cases e0; cases e1; cases e2; cases e3; cases e4; cases e5; cases e6
  unfold reachBytes at B4 B5 B6
  refine ⟨.mk k nm m fl ns ms ks, ⟨?_, ?_⟩, ?_⟩
  · simp only [TyR]
    exact ⟨_, _, _, x6, rfl, R4, R5, R6, t6⟩
  · rw [T.ok]
    refine ⟨i64ok_of ok0, i64ok_of ok2, ok1, o4, ?_, ?_, ?_, o6⟩ <;> unfold Lim <;> omega
  · rw [wt_eq]
    simp only [T.nm, T.ns, T.ks, Rows.uptoBulk, Rows.uptoBulkAll, List.map_cons, List.map_nil]
    rw [sum8] at M6
    have := bulk_one z0.1
    have := bulk_one z2.1
    have := bulk_one z3.1
    have := bulk_one z5.1
    omega
end
end Go.Proofs.Ytanhdklaponekaa
