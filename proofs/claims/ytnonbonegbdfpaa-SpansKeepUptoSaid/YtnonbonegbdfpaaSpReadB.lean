/- What an argument reads as, and how much it is: files and edits. -/
import Derived.Test.YtnonbonegbdfpaaSpRead
import Derived.Test.YtnonbonegbdfpaaSpFile
namespace Go.Proofs.Ytnonbonegbdfpaa
open Go Go.RowKit Go.ChangeShapes Go.WideShapes Go.ChangeAt

theorem bulkAll_sum {H : Type} (l : List (DataW H)) : Rows.uptoBulkAll l = (l.map Rows.uptoBulk).sum := by
  induction l with
  | nil => simp [Rows.uptoBulkAll]
  | cons x l ih => simp only [Rows.uptoBulkAll, ih, List.map_cons, List.sum_cons]
theorem bulk_one {H : Type} (d : DataW H) : 1 ≤ Rows.uptoBulk d := by
  cases d with
  | lit l => cases l <;> simp [Rows.uptoBulk]
  | nil => simp [Rows.uptoBulk]
  | ptr d => simp [Rows.uptoBulk]
  | slice elems spare => simp [Rows.uptoBulk]
  | agg parts => simp [Rows.uptoBulk]
  | iface t d => simp [Rows.uptoBulk]
  | map entries => simp [Rows.uptoBulk]
  | held h => simp [Rows.uptoBulk]
theorem sum_range {α : Type} (l : List α) (z : α) (g : α → Nat) : ∀ n, n ≤ l.length → ((List.range n).map (fun i => g ((l[i]?).getD z))).sum = ((l.take n).map g).sum
  | 0, _ => by simp
  | n + 1, h => by
    rw [List.range_succ, List.map_append, List.sum_append, sum_range l z g n (by omega), List.take_succ_eq_append_getElem (by omega), List.map_append, List.sum_append]
    simp [List.getElem?_eq_getElem (show n < l.length by omega)]
theorem list2 : ∀ {l : List Value}, l.length = 2 → ∃ c0 c1, l = [c0, c1]
  | [_, _], _ => ⟨_, _, rfl⟩
theorem list4 : ∀ {l : List Value}, l.length = 4 → ∃ c0 c1 c2 c3, l = [c0, c1, c2, c3]
  | [_, _, _, _], _ => ⟨_, _, _, _, rfl⟩

/-- n elements of k cells, each read and weighed: the row as a whole -/
theorem gatherB {α : Type} {Q : α → List Value → Prop} {m : α → Nat} {g : Nat → Nat} {w : World} {b o k : Nat} : ∀ (n : Nat), (∀ i, i < n → ∃ y cs, cs.length = k ∧ (∀ j, j < k → w.cell? ⟨b, o + (i * k + j), none⟩ = cs[j]?) ∧ Q y cs ∧ m y ≤ g i) →
    ∃ ys xs, ys.length = n ∧ xs.length = n * k ∧ (∀ j u, xs[j]? = some u → w.cell? ⟨b, o + j, none⟩ = some u) ∧ AllR Q ys xs ∧ (ys.map m).sum ≤ ((List.range n).map g).sum
  | 0, _ => ⟨[], [], rfl, by simp, fun j u h => by simp at h, rfl, by simp⟩
  | n + 1, h => by
    obtain ⟨ys, xs, h1, h2, h3, h4, h5⟩ := gatherB (g := g) n fun i hi => h i (by omega)
    obtain ⟨y, cs, g1, g2, g3, g4⟩ := h n (by omega)
    refine ⟨ys ++ [y], xs ++ cs, by simp [h1], by simp only [List.length_append, h2, g1]; rw [Nat.add_mul, Nat.one_mul], fun j u hj => ?_, h4.snoc g3, ?_⟩
    · rcases Nat.lt_or_ge j xs.length with hlt | hge
      · rw [List.getElem?_append_left hlt] at hj; exact h3 j u hj
      · rw [List.getElem?_append_right hge] at hj
        have hl : j - xs.length < cs.length := by
          rcases Nat.lt_or_ge (j - xs.length) cs.length with x | x
          · exact x
          · rw [List.getElem?_eq_none x] at hj; cases hj
        have := g2 (j - xs.length) (by omega)
        rw [hj, show n * k + (j - xs.length) = j from by omega] at this
        exact this
    · rw [List.range_succ, List.map_append, List.map_append, List.sum_append, List.sum_append]
      simp only [List.map_cons, List.map_nil, List.sum_cons, List.sum_nil]
      omega

section
variable {H : Type} {enc : TypeId × Value → H} {P : Program} {w : World} {fuel : Nat} {held : Bool} {sp : Nat → Bool}
/-- a slice that reads: its row; Q what each element gives; m its weight -/
theorem read_sliceB {t e : TypeId} {k : Nat} {α : Type} {Q : α → List Value → Prop} {m : α → Nat} {cs : List Value} {x : DataW H × List MemPlace} (ht : P.underlying t = some (.slice e)) (hk : P.cellsOf e = k) (hk0 : 0 < k)
    (h : DataW.trod enc P w 0 sp held fuel t cs = some x) (hw : ∀ n ∈ x.1.weights P t, n ≤ reachBytes)
    (hq : ∀ n cs y, fuel = n + 1 → DataW.trod enc P w 0 sp held n e cs = some y → (∀ n ∈ y.1.weights P e, n ≤ reachBytes) → ∃ a, Q a cs ∧ m a ≤ Rows.uptoBulk y.1) :
    ∃ v ys xs, cs = [v] ∧ Row w (fun b => b < w.heap.size) k v ys.length xs ∧ AllR Q ys xs ∧ ys.length * P.bytesOf e ≤ reachBytes ∧ (ys.map m).sum + 1 ≤ Rows.uptoBulk x.1 := by
  rcases DataW.trod_slice ht h with ⟨rfl, rfl⟩ | ⟨a, len, cap, elems, rest, n, hf, rfl, rfl, -, hlc, hcm, hel, hget, -⟩
  · exact ⟨_, [], [], rfl, Row.nil_, rfl, by simp, by simp [Rows.uptoBulk]⟩
  · simp only [DataW.weights, ht, List.mem_cons, List.mem_append, List.length_map] at hw
    have hb : (elems.length + rest.length) * P.bytesOf e ≤ reachBytes := hw _ (.inl rfl)
    have hlb : len * P.bytesOf e ≤ reachBytes := Nat.le_trans (Nat.mul_le_mul_right _ (by omega)) hb
    rw [hk] at hget
    rcases Nat.eq_zero_or_pos len with rfl | hp
    · exact ⟨_, [], [], rfl, ⟨by simp, _, cap, rfl, Nat.zero_le _, hcm, (fun e => by cases e), fun h => absurd h (by simp)⟩, rfl, by simp, by simp only [Rows.uptoBulk, List.map_nil, List.sum_nil]; omega⟩
    · obtain ⟨b, o, s⟩ := a
      have hs : s = none ∧ b < w.heap.size := by
        have h0 := hget 0 hp
        rw [List.getElem?_eq_getElem (by omega), Option.bind_eq_some_iff] at h0
        obtain ⟨c0, g1, -⟩ := h0
        obtain ⟨-, g2, g3⟩ := World.cells?_some g1
        have g4 := g3 0 hk0
        rw [List.getElem?_eq_getElem (by omega)] at g4
        simp only [Nat.zero_mul, Addr.add, if_true] at g4
        exact ⟨spot_of_cell g4, lt_of_cell g4⟩
      obtain ⟨rfl, hbl⟩ := hs
      obtain ⟨ys, xs, h1, h2, h3, h4, h5⟩ := gatherB (Q := Q) (m := m) (g := fun i => Rows.uptoBulk (((elems.map (·.1))[i]?).getD .nil)) (w := w) (b := b) (o := o) (k := k) len fun i hi => by
        have h0 := hget i hi
        rw [List.getElem?_eq_getElem (by omega), Option.bind_eq_some_iff] at h0
        obtain ⟨c0, g1, g5⟩ := h0
        obtain ⟨-, g2, g3⟩ := World.cells?_some g1
        obtain ⟨y, hy, hm⟩ := hq n c0 _ hf g5 (fun m hm => hw m (.inr (.inl (weights_all (List.mem_map_of_mem (List.getElem_mem (by omega))) m hm))))
        refine ⟨y, c0, g2, fun j hj => ?_, hy, ?_⟩
        · have := g3 j hj
          rw [add_plain, add_plain, Nat.add_assoc] at this
          exact this
        · rw [List.getElem?_map, List.getElem?_eq_getElem (by omega)]
          exact hm
      have h6 := sum_range (elems.map (·.1)) (.nil : DataW H) (fun d => Rows.uptoBulk d) len (by rw [List.length_map]; omega)
      rw [List.take_of_length_le (by rw [List.length_map]; omega)] at h6
      have h7 : ∀ l : List (DataW H), (l.map (fun d => Rows.uptoBulk d)).sum = Rows.uptoBulkAll l := fun l => (bulkAll_sum l).symm
      rw [h7] at h6
      refine ⟨_, ys, xs, rfl, ⟨by rw [h2, h1], some ⟨b, o, none⟩, cap, by rw [h1], by omega, hcm, (fun e => by cases e), fun _ => ⟨b, o, rfl, hbl, h3⟩⟩, h4, by rw [h1]; exact hlb, ?_⟩
      simp only [Rows.uptoBulk]
      omega
end

section
variable {H : Type} {enc : TypeId × Value → H} {w : World} {held : Bool} {sp : Nat → Bool}
theorem size_data (s : ByteArray) : s.data.toList.length = s.size := by rw [Array.length_toList]; rfl
theorem each_at {P : Program} {ts : List TypeId} {ds : List (DataW H)} (h : ∀ n ∈ DataW.weightsEach P ts ds, n ≤ reachBytes) {j : Nat} {t : TypeId} {d : DataW H} (h1 : ts[j]? = some t) (h2 : ds[j]? = some d) :
    ∀ n ∈ d.weights P t, n ≤ reachBytes := fun n hn => h n (DataW.weights_mem_each h1 h2 n hn)
theorem read_stringB {t : TypeId} {fuel : Nat} {cs : List Value} {x : DataW H × List MemPlace} (ht : Try.prog.underlying t = some .string) (h : DataW.trod enc Try.prog w 0 sp held fuel t cs = some x)
    (hw : ∀ n ∈ x.1.weights Try.prog t, n ≤ reachBytes) : ∃ s : ByteArray, (cs = [.string s] ∧ s.size ≤ Lim) ∧ s.size + 1 ≤ Rows.uptoBulk x.1 := by
  obtain ⟨s, rfl, rfl, -⟩ := DataW.trod_string ht h
  have := hw s.data.toList.length (by simp [DataW.weights])
  rw [size_data] at this
  refine ⟨s, ⟨rfl, by unfold reachBytes at this; unfold Lim; omega⟩, ?_⟩
  simp only [Rows.uptoBulk]
  rw [size_data]
  exact Nat.le_refl _

theorem cells_str : Try.prog.cellsOf 9 = 1 := by kernel_rfl
theorem cells_int : Try.prog.cellsOf 3 = 1 := by kernel_rfl
theorem cells_file : Try.prog.cellsOf 43 = 2 := by kernel_rfl
theorem cells_edit : Try.prog.cellsOf 33 = 4 := by kernel_rfl
theorem bytes_file : Try.prog.bytesOf 43 = 32 := by kernel_rfl
theorem bytes_edit : Try.prog.bytesOf 33 = 48 := by kernel_rfl

def fiOk (f : Fi) : Prop := f.p.size ≤ Lim ∧ f.tx.size ≤ Lim
def edOk (x : Ed) : Prop := x.p.size ≤ Lim ∧ x.tx.size ≤ Lim ∧ (-9223372036854775808 ≤ x.fr ∧ x.fr ≤ 9223372036854775807) ∧ (-9223372036854775808 ≤ x.to ∧ x.to ≤ 9223372036854775807)
def fiB (f : Fi) : Nat := f.p.size + f.tx.size + 1
def edB (x : Ed) : Nat := x.p.size + x.tx.size + 1

theorem i64_of {n : Int} (h : (Lit.int .i64 n).wf = true) : -9223372036854775808 ≤ n ∧ n ≤ 9223372036854775807 := by
  simp [Lit.wf, IntKind.min, IntKind.max, IntKind.bits, IntKind.signed] at h
  omega

theorem read_file (fuel : Nat) {cs : List Value} {x : DataW H × List MemPlace} (h : DataW.trod enc Try.prog w 0 sp held fuel 43 cs = some x)
    (hw : ∀ n ∈ x.1.weights Try.prog 43, n ≤ reachBytes) : ∃ f : Fi, (cs = f.cs ∧ fiOk f) ∧ fiB f ≤ Rows.uptoBulk x.1 := by
  obtain ⟨xs, n, rfl, rfl, hl, hxl, hf⟩ := DataW.trod_struct Try.underlying43 h
  rw [cells_file] at hl
  obtain ⟨c0, c1, rfl⟩ := list2 hl
  simp only [DataW.weights, Try.underlying43] at hw
  have hx : xs.length = 2 := hxl
  obtain ⟨z0, z1, rfl⟩ : ∃ z0 z1, xs = [z0, z1] := by
    match xs, hx with
    | [z0, z1], _ => exact ⟨z0, z1, rfl⟩
  have H2 : ∀ (i : Nat) (f : Field) (c : Value) (z : DataW H × List MemPlace), (#[{ name := "Path", type := 9, offset := 0, embedded := false, tag := "", pkgPath := "", byteOffset := 0 },
        { name := "Text", type := 9, offset := 1, embedded := false, tag := "", pkgPath := "", byteOffset := 16 }] : Array Field)[i]? = some f →
      [z0, z1][i]? = some z →
      ([c0, c1].drop f.offset).take (Try.prog.cellsOf f.type) = [c] → DataW.trod enc Try.prog w 0 sp held n f.type [c] = some z ∧ ∀ m ∈ z.1.weights Try.prog f.type, m ≤ reachBytes := by
    intro i f c z hi hz hc
    have h1 := hf i f hi
    rw [hc, hz] at h1
    refine ⟨h1, each_at hw (j := i) ?_ ?_⟩
    · rw [List.getElem?_map, Array.getElem?_toList, hi]; rfl
    · rw [List.getElem?_map, hz]; rfl
  obtain ⟨r0, w0⟩ := H2 0 _ c0 z0 rfl rfl (by simp [cells_str])
  obtain ⟨r1, w1⟩ := H2 1 _ c1 z1 rfl rfl (by simp [cells_str])
  clear H2 hf hw h
  obtain ⟨p, ⟨e0, ok0⟩, m0⟩ := read_stringB Try.underlying9 r0 w0
  obtain ⟨tx, ⟨e1, ok1⟩, m1⟩ := read_stringB Try.underlying9 r1 w1
  cases e0; cases e1
  refine ⟨⟨p, tx⟩, ⟨rfl, ok0, ok1⟩, ?_⟩
  simp only [fiB, Rows.uptoBulk, Rows.uptoBulkAll, List.map_cons, List.map_nil]
  omega

theorem read_edit (fuel : Nat) {cs : List Value} {x : DataW H × List MemPlace} (h : DataW.trod enc Try.prog w 0 sp held fuel 33 cs = some x)
    (hw : ∀ n ∈ x.1.weights Try.prog 33, n ≤ reachBytes) : ∃ f : Ed, (cs = f.cs ∧ edOk f) ∧ edB f ≤ Rows.uptoBulk x.1 := by
  obtain ⟨xs, n, rfl, rfl, hl, hxl, hf⟩ := DataW.trod_struct Try.underlying33 h
  rw [cells_edit] at hl
  obtain ⟨c0, c1, c2, c3, rfl⟩ := list4 hl
  simp only [DataW.weights, Try.underlying33] at hw
  have hx : xs.length = 4 := hxl
  obtain ⟨z0, z1, z2, z3, rfl⟩ : ∃ z0 z1 z2 z3, xs = [z0, z1, z2, z3] := by
    match xs, hx with
    | [z0, z1, z2, z3], _ => exact ⟨z0, z1, z2, z3, rfl⟩
  have H2 : ∀ (i : Nat) (f : Field) (c : Value) (z : DataW H × List MemPlace), (#[{ name := "Path", type := 9, offset := 0, embedded := false, tag := "", pkgPath := "", byteOffset := 0 },
        { name := "From", type := 3, offset := 1, embedded := false, tag := "", pkgPath := "", byteOffset := 16 },
        { name := "To", type := 3, offset := 2, embedded := false, tag := "", pkgPath := "", byteOffset := 24 },
        { name := "Text", type := 9, offset := 3, embedded := false, tag := "", pkgPath := "", byteOffset := 32 }] : Array Field)[i]? = some f →
      [z0, z1, z2, z3][i]? = some z →
      ([c0, c1, c2, c3].drop f.offset).take (Try.prog.cellsOf f.type) = [c] → DataW.trod enc Try.prog w 0 sp held n f.type [c] = some z ∧ ∀ m ∈ z.1.weights Try.prog f.type, m ≤ reachBytes := by
    intro i f c z hi hz hc
    have h1 := hf i f hi
    rw [hc, hz] at h1
    refine ⟨h1, each_at hw (j := i) ?_ ?_⟩
    · rw [List.getElem?_map, Array.getElem?_toList, hi]; rfl
    · rw [List.getElem?_map, hz]; rfl
  obtain ⟨r0, w0⟩ := H2 0 _ c0 z0 rfl rfl (by simp [cells_str])
  obtain ⟨r1, w1⟩ := H2 1 _ c1 z1 rfl rfl (by simp [cells_int])
  obtain ⟨r2, w2⟩ := H2 2 _ c2 z2 rfl rfl (by simp [cells_int])
  obtain ⟨r3, w3⟩ := H2 3 _ c3 z3 rfl rfl (by simp [cells_str])
  clear H2 hf hw h
  obtain ⟨p, ⟨e0, ok0⟩, m0⟩ := read_stringB Try.underlying9 r0 w0
  obtain ⟨k, e1, -, ok1⟩ := DataW.trod_int Try.underlying3 r1
  obtain ⟨m, e2, -, ok2⟩ := DataW.trod_int Try.underlying3 r2
  obtain ⟨tx, ⟨e3, ok3⟩, m3⟩ := read_stringB Try.underlying9 r3 w3
  cases e0; cases e1; cases e2; cases e3
  refine ⟨⟨p, k, m, tx⟩, ⟨rfl, ok0, ok3, i64_of ok1, i64_of ok2⟩, ?_⟩
  simp only [edB, Rows.uptoBulk, Rows.uptoBulkAll, List.map_cons, List.map_nil]
  omega

theorem allR_files : ∀ {ys : List Fi} {xs : List Value}, AllR (fun (f : Fi) cs => cs = f.cs ∧ fiOk f) ys xs → xs = flatF ys ∧ ∀ f ∈ ys, fiOk f
  | [], xs, h => ⟨h, by simp⟩
  | y :: ys, xs, h => by
    obtain ⟨c1, c2, rfl, ⟨rfl, h1⟩, h2⟩ := h
    obtain ⟨rfl, h3⟩ := allR_files h2
    exact ⟨rfl, fun s hs => (List.mem_cons.1 hs).elim (fun e => e ▸ h1) (h3 s)⟩
theorem allR_edits : ∀ {ys : List Ed} {xs : List Value}, AllR (fun (f : Ed) cs => cs = f.cs ∧ edOk f) ys xs → xs = flat ys ∧ ∀ f ∈ ys, edOk f
  | [], xs, h => ⟨h, by simp⟩
  | y :: ys, xs, h => by
    obtain ⟨c1, c2, rfl, ⟨rfl, h1⟩, h2⟩ := h
    obtain ⟨rfl, h3⟩ := allR_edits h2
    exact ⟨rfl, fun s hs => (List.mem_cons.1 hs).elim (fun e => e ▸ h1) (h3 s)⟩

/-- a []api.File argument -/
theorem read_files {v : Value} {d : DataW H} {ps : List MemPlace} {fuel : Nat} (h : DataW.trod enc Try.prog w 0 sp held fuel 34 [v] = some (d, ps)) (hw : ∀ n ∈ d.weights Try.prog 34, n ≤ reachBytes) :
    ∃ fs : List Fi, Row w (fun b => b < w.heap.size) 2 v fs.length (flatF fs) ∧ (∀ f ∈ fs, fiOk f) ∧ fs.length * 32 ≤ Lim ∧ (fs.map fiB).sum + 1 ≤ Rows.uptoBulk d := by
  obtain ⟨v6, ks, x6, e6, R6, A6, B6, M6⟩ := read_sliceB (Q := fun (f : Fi) cs => cs = f.cs ∧ fiOk f) (m := fiB) Try.underlying34 cells_file (by omega) h hw fun n' _ _ _ g gw => read_file n' g gw
  obtain ⟨rfl, o6⟩ := allR_files A6
  rw [bytes_file] at B6
  unfold reachBytes at B6
  cases e6
  exact ⟨ks, R6, o6, by unfold Lim; omega, M6⟩
/-- a []api.Edit argument -/
theorem read_edits {v : Value} {d : DataW H} {ps : List MemPlace} {fuel : Nat} (h : DataW.trod enc Try.prog w 0 sp held fuel 22 [v] = some (d, ps)) (hw : ∀ n ∈ d.weights Try.prog 22, n ≤ reachBytes) :
    ∃ l : List Ed, Row w (fun b => b < w.heap.size) 4 v l.length (flat l) ∧ (∀ f ∈ l, edOk f) ∧ l.length * 48 ≤ Lim ∧ (l.map edB).sum + 1 ≤ Rows.uptoBulk d := by
  obtain ⟨v6, ks, x6, e6, R6, A6, B6, M6⟩ := read_sliceB (Q := fun (f : Ed) cs => cs = f.cs ∧ edOk f) (m := edB) Try.underlying22 cells_edit (by omega) h hw fun n' _ _ _ g gw => read_edit n' g gw
  obtain ⟨rfl, o6⟩ := allR_edits A6
  rw [bytes_edit] at B6
  unfold reachBytes at B6
  cases e6
  exact ⟨ks, R6, o6, by unfold Lim; omega, M6⟩
end
end Go.Proofs.Ytnonbonegbdfpaa
