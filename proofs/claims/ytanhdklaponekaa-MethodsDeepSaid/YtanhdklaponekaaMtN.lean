/- types.New: a world out of a list of declared types: plain parts. -/
import Derived.Test.YtanhdklaponekaaMtI
namespace Go.Proofs.Ytanhdklaponekaa
open Go Go.RowKit

/-- what the map reads as, D, tells what L says -/
def TabD (w : World) (S : Nat → Prop) (L : List Nd) (D : DataW Value) : Prop :=
  Maps.IsMap D ∧ ∀ s : ByteArray, (look L s = none → Maps.has D (keyS s) = false) ∧ ∀ d, look L s = some d → Maps.has D (keyS s) = true ∧ ∃ cs : List Value, (∀ z, D.atKey (keyS s) z = .held (.agg cs.toArray)) ∧ NdR w S d cs
theorem TabD.keep {w w' : World} {S S' : Nat → Prop} {L : List Nd} {D : DataW Value} (h : TabD w S L D) (hs : SameOn S w w') (h1 : ∀ b, S b → S' b) : TabD w' S' L D :=
  ⟨h.1, fun s => ⟨(h.2 s).1, fun d hd => by obtain ⟨a1, cs, a2, a3⟩ := (h.2 s).2 d hd; exact ⟨a1, cs, a2, a3.keep hs h1⟩⟩⟩
theorem TabD.nil (w : World) (S : Nat → Prop) : TabD w S [] (.map []) := ⟨⟨_, rfl⟩, fun s => ⟨fun _ => by simp [Maps.has], fun d hd => by simp [look] at hd⟩⟩
theorem keyS_lit (s : ByteArray) : WideAt.IsKeyLit (keyS s) := by simp [keyS, WideAt.IsKeyLit]
theorem look_snoc (L : List Nd) (d : Nd) (s : ByteArray) : look (L ++ [d]) s = (look L s).or (if d.nm = s then some d else none) := by
  unfold look
  rw [List.find?_append]
  congr 1
  by_cases h : d.nm = s <;> simp [h]
theorem TabD.snoc {w : World} {S : Nat → Prop} {L : List Nd} {D : DataW Value} {d : Nd} {cs : List Value} (h : TabD w S L D) (hn : look L d.nm = none) (hc : NdR w S d cs) : TabD w S (L ++ [d]) (D.put (keyS d.nm) (.held (.agg cs.toArray))) := by
  refine ⟨h.1.put _ _, fun s => ?_⟩
  rw [look_snoc]
  by_cases e : d.nm = s
  · subst e
    rw [hn, if_pos rfl]
    refine ⟨fun e => by simp at e, fun d' hd => ?_⟩
    simp only [Option.or, Option.some.injEq] at hd
    subst hd
    exact ⟨Maps.has_put_same h.1 (keyS_lit _) _, cs, fun z => Maps.atKey_put_same h.1 (keyS_lit _) _ z, hc⟩
  · rw [if_neg e]
    have ho : (look L s).or none = look L s := by cases look L s <;> rfl
    rw [ho, Maps.has_put_other (fun e2 => keyS_ne e e2.symm)]
    refine ⟨(h.2 s).1, fun d' hd => ?_⟩
    obtain ⟨a1, cs', a2, a3⟩ := (h.2 s).2 d' hd
    exact ⟨a1, cs', fun z => by rw [Maps.atKey_put_other (fun e2 => keyS_ne e e2.symm)]; exact a2 z, a3⟩
theorem TabD.again {w : World} {S : Nat → Prop} {L : List Nd} {D : DataW Value} {d : Nd} {s : ByteArray} {cs : List Value} (h : TabD w S L D) (hn : look L s = some d) (hc : NdR w S d cs) : TabD w S L (D.put (keyS s) (.held (.agg cs.toArray))) := by
  refine ⟨h.1.put _ _, fun s' => ?_⟩
  by_cases e : s = s'
  · subst e
    refine ⟨fun e => by rw [hn] at e; simp at e, fun d' hd => ?_⟩
    rw [hn] at hd
    simp only [Option.some.injEq] at hd
    subst hd
    exact ⟨Maps.has_put_same h.1 (keyS_lit _) _, cs, fun z => Maps.atKey_put_same h.1 (keyS_lit _) _ z, hc⟩
  · rw [Maps.has_put_other (fun e2 => keyS_ne e e2.symm)]
    refine ⟨(h.2 s').1, fun d' hd => ?_⟩
    obtain ⟨a1, cs', a2, a3⟩ := (h.2 s').2 d' hd
    exact ⟨a1, cs', fun z => by rw [Maps.atKey_put_other (fun e2 => keyS_ne e e2.symm)]; exact a2 z, a3⟩
theorem TabD.tab {w : World} {S : Nat → Prop} {L : List Nd} {D : DataW Value} {n b : Nat} (h : TabD w S L D) (ho : w.ownsMap Try.prog 9 heldE b n D) (hn : n ≤ Lim) : TabR w S b L := ⟨n, D, hn, ho, h.2⟩
theorem look_take {L : List Nd} (hnd : (L.map (·.nm)).Nodup) {j : Nat} (hj : j < L.length) : look (L.take j) L[j].nm = none := by
  unfold look
  rw [List.find?_eq_none]
  intro d hd
  simp only [decide_eq_true_eq]
  intro e
  obtain ⟨i, hi, rfl⟩ := List.getElem_of_mem hd
  rw [List.length_take] at hi
  rw [List.getElem_take] at e
  have hij : i = j := by
    have h1 : (L.map (·.nm))[i]'(by simp; omega) = (L.map (·.nm))[j]'(by simp; omega) := by simpa using e
    exact (List.getElem_inj hnd).1 h1
  omega
theorem has_look {w : World} {S : Nat → Prop} {L : List Nd} {D : DataW Value} (h : TabD w S L D) {s : ByteArray} (hs : Maps.has D (keyS s) = true) : ∃ d, look L s = some d := by
  cases hl : look L s with
  | none => rw [(h.2 s).1 hl] at hs; exact absurd hs (by simp)
  | some d => exact ⟨d, rfl⟩

/-- a declared type among those of a row, cell by cell -/
theorem ndAt {w : World} {S : Nat → Prop} {v : Value} {ds : List Nd} {xs : List Value} (h : Row w S 9 v ds.length xs) (ha : AllR (NdR w S) ds xs) {i : Nat} (hi : i < ds.length) :
    ∃ b o cap A1 c1 A2 c2 A3 c3 A4 c4, v = .slice (some ⟨b, o, none⟩) ds.length cap ∧ S b ∧
      NdR w S ds[i] [.string ds[i].nm, .int .i64 ds[i].un.kd, .string ds[i].un.nm, .int .i64 ds[i].un.n, .bool ds[i].un.fl, .slice A1 ds[i].un.ns.length c1, .slice A2 ds[i].un.ms.length c2, .slice A3 ds[i].un.ks.length c3, .slice A4 ds[i].ms.length c4] ∧
      TyR w S ds[i].un [.int .i64 ds[i].un.kd, .string ds[i].un.nm, .int .i64 ds[i].un.n, .bool ds[i].un.fl, .slice A1 ds[i].un.ns.length c1, .slice A2 ds[i].un.ms.length c2, .slice A3 ds[i].un.ks.length c3] ∧ RowMe w S (.slice A4 ds[i].ms.length c4) ds[i].ms ∧
      w.cell? ⟨b, o + i * 9, none⟩ = some (.string ds[i].nm) ∧
      w.cell? ⟨b, o + i * 9 + 1, none⟩ = some (.int .i64 ds[i].un.kd) ∧ w.cell? ⟨b, o + i * 9 + 2, none⟩ = some (.string ds[i].un.nm) ∧ w.cell? ⟨b, o + i * 9 + 3, none⟩ = some (.int .i64 ds[i].un.n) ∧
      w.cell? ⟨b, o + i * 9 + 4, none⟩ = some (.bool ds[i].un.fl) ∧ w.cell? ⟨b, o + i * 9 + 5, none⟩ = some (.slice A1 ds[i].un.ns.length c1) ∧ w.cell? ⟨b, o + i * 9 + 6, none⟩ = some (.slice A2 ds[i].un.ms.length c2) ∧
      w.cell? ⟨b, o + i * 9 + 7, none⟩ = some (.slice A3 ds[i].un.ks.length c3) ∧ w.cell? ⟨b, o + i * 9 + 8, none⟩ = some (.slice A4 ds[i].ms.length c4) := by
  obtain ⟨b, o, cap, cs, hv, hSb, hm, hc⟩ := row_all_at h ha (k := 9) (fun _ _ h => h.len) hi
  have hm2 := hm
  obtain ⟨A1, c1, A2, c2, A3, c3, A4, c4, rfl, ht, hr⟩ := hm.forms
  exact ⟨b, o, cap, A1, c1, A2, c2, A3, c3, A4, c4, hv, hSb, hm2, ht, hr, hc 0 _ rfl, hc 1 _ rfl, hc 2 _ rfl, hc 3 _ rfl, hc 4 _ rfl, hc 5 _ rfl, hc 6 _ rfl, hc 7 _ rfl, hc 8 _ rfl⟩
theorem mm_named (w : World) : (Instr.makeMap 83 none).run Try.prog w = .ok (.map (some w.heap.size)) (w.alloc (.map #[] 0)) := by kernel_rfl
end Go.Proofs.Ytanhdklaponekaa
