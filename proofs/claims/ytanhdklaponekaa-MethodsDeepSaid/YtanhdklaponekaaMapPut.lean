/- A store at a key that is there, into the map that is ranged over. -/
import Derived.Maps.RangeWalk
import Derived.Maps.OwnSet
namespace Go.Proofs.Ytanhdklaponekaa
open Go
open Go.ChangeMaps Go.MapKept Go.WideShapes
open Go.WideElems (Fit rd rg pl rd_key rd_val rg_of rd_mk other_key)
open Go.Maps (Keyed IsMap Tidy)
open Go.Maps

section
variable {H : Type} {P : Program} {k : TypeId} {R : Value → Option (DataW H × List MemPlace)} {w : World} {b r n : Nat} {D : DataW H} {left : Lit → Bool} {cnt : Nat}

theorem ranges_store {t e : TypeId} (h : w.ranges P k R b r n D left cnt) (K : Keyed P k) (ht : P.underlying t = some (.map k e)) {key val : Value} {kl : Lit} {d : DataW H} {ps : List MemPlace}
    (hkey : keyOf P k key = some kl) (hv : R val = some (d, ps)) (hthere : Maps.has D kl = true) :
    ∃ w', (Instr.mapUpdate t (.map (some b)) key val).run P w = .ok () w' ∧ w'.ranges P k R b r n (D.put kl d) left cnt ∧ w.mapTurned w' b := by
  have hne := h.ne
  obtain ⟨es, clock, since, seen, c0, hb, F, hs, rfl, hr, hold, hc, hl1, hl2, hsc, hsk⟩ := h
  rcases K.find w hkey es.toList F.keys with ⟨h1, h2⟩ | ⟨j, e0, h1, h2, h3⟩
  · exfalso
    obtain ⟨p, hp, hpk⟩ := List.any_eq_true.1 hthere
    obtain ⟨x, hx, rfl⟩ := List.mem_map.1 (mem_sorted.1 hp)
    obtain ⟨y, hy⟩ := F.reads x hx
    have m1 := rd_key hy
    have e1 := WideAt.sameKey_eq hpk
    rw [rg_of hy] at e1
    exact h2 x hx (K.inj (e1 ▸ m1) hkey)
  · have hj : es[j]? = some e0 := by simpa using h2
    have hjl : j < es.toList.length := (List.getElem?_eq_some_iff.1 h2).1
    have hkeyf : ∀ e', es[j]? = some e' → ({ e' with key := key, val := val } : MapEntry).key = e'.key := fun e' he' => by rw [hj] at he'; cases he'; exact h3.symm
    have hlist : (es.modify j (fun e' => { e' with key := key, val := val })).toList = es.toList.set j { e0 with key := key, val := val } := by rw [Array.toList_modify, modify_eq_set _ _ _ _ h2]
    have hset0 : (es.modify j (fun e' => { e' with key := key, val := val })).toList = es.toList.set j { e0 with key := key, val := val } := hlist
    -- entry by entry: the same stamp, the same key
    have pair : ∀ (i : Nat) (x' : MapEntry), (es.toList.set j { e0 with key := key, val := val })[i]? = some x' → ∃ x : MapEntry, es.toList[i]? = some x ∧ x'.born = x.born ∧ x'.key = x.key := by
      intro i x' hx'
      rw [List.getElem?_set] at hx'
      split at hx'
      · rename_i e1
        subst e1
        cases hx'
        exact ⟨e0, h2, rfl, h3.symm⟩
      · exact ⟨x', hx', rfl, rfl⟩
    have pair' : ∀ (i : Nat) (x : MapEntry), es.toList[i]? = some x → ∃ x' : MapEntry, (es.toList.set j { e0 with key := key, val := val })[i]? = some x' ∧ x'.born = x.born ∧ x'.key = x.key := by
      intro i x hx
      rw [List.getElem?_set]
      by_cases e1 : j = i
      · subst e1
        rw [if_pos rfl, if_pos hjl]
        rw [h2] at hx
        cases hx
        exact ⟨_, rfl, rfl, h3.symm⟩
      · rw [if_neg e1]
        exact ⟨x, hx, rfl, rfl⟩
    have who : ∀ x ∈ es.toList.set j { e0 with key := key, val := val }, x = { e0 with key := key, val := val } ∨ (x ∈ es.toList ∧ x.key ≠ key) := by
      intro x hx
      obtain ⟨i, hi, ex⟩ := List.getElem_of_mem hx
      rw [List.getElem_set] at ex
      split at ex
      · exact Or.inl ex.symm
      · rename_i hne
        have hi' : i < es.toList.length := by simpa using hi
        refine Or.inr ⟨ex ▸ List.getElem_mem hi', ?_⟩
        rw [← h3]
        exact other_key F h2 (by rw [List.getElem?_eq_getElem hi', ex]) (fun e1 => hne e1.symm)
    have F' : Fit P k R (es.modify j (fun e' => { e' with key := key, val := val })) clock := by
      refine ⟨by simpa using F.size, stamped_modify F.stamped _ _ (fun _ _ => rfl) (fun e' _ he' => hkeyf e' he'), ?_⟩
      intro x hx
      rw [hlist] at hx
      rcases who x hx with rfl | ⟨hx', hne⟩
      · exact ⟨_, rd_mk hkey hv⟩
      · exact F.reads x hx'
    have samek : ∀ x ∈ es.toList, ∀ x' ∈ (es.modify j (fun e' => { e' with key := key, val := val })).toList, x'.key = x.key → (rg P k R x').1 = (rg P k R x).1 := by
      intro x hx x' hx' hk
      obtain ⟨y, hy⟩ := F.reads x hx
      obtain ⟨y', hy'⟩ := F'.reads x' hx'
      rw [rg_of hy, rg_of hy']
      have m1 := rd_key hy
      have m2 := rd_key hy'
      rw [hk, m1] at m2
      exact (Option.some.inj m2).symm
    refine ⟨setBlock w b (.map (es.modify j (fun e' => { e' with key := key, val := val })) clock), ?_, ⟨_, clock, since, seen, c0, heap_setBlock_same hb _, F', by simpa using hs, ?_, (heap_setBlock_other hb _ hne).trans hr, ?_, ?_, ?_, ?_, hsc, hsk⟩, ⟨es, clock, _, _, hb, rfl⟩⟩
    · simp [Instr.mapUpdate, run_underlying ht, MapKept.run_getObj_map hb, K.check w false hkey, h1, hj, h3, K.stays w hkey, MapKept.run_setObj_map _ hb, Result.andThen, setBlock]
    · rw [DataW.put_eq]
      congr 1
      refine (sorted_put K.one ⟨key, hkey⟩ (fit_keys F) (fit_apart K F) ?_).symm
      rw [filter_one K F hkey h2 h3, hlist, List.map_set, rg_of (rd_mk hkey hv)]
      exact set_perm _ _ (by simpa using hjl) _
    · intro x' hx'
      rw [hlist] at hx'
      obtain ⟨i, hi⟩ := List.getElem?_of_mem hx'
      obtain ⟨x, h4, h5, _⟩ := pair i x' hi
      rw [h5]
      exact hold x (List.mem_of_getElem? h4)
    · rw [← hc]
      have e1 : ∀ a : Array MapEntry, (leftOf a seen).size = ((a.toList.map (·.born)).filter fun s => !seen.contains s).length := fun a => by
        unfold leftOf
        rw [← Array.length_toList, Array.toList_filter, List.filter_map, List.length_map]
        rfl
      rw [e1, e1, hlist]
      congr 2
      refine List.ext_getElem? fun i => ?_
      rw [List.getElem?_map, List.getElem?_map]
      cases hx : (es.toList.set j { e0 with key := key, val := val })[i]? with
      | none =>
        have : es.toList[i]? = none := by
          rw [List.getElem?_eq_none_iff] at hx ⊢
          simpa using hx
        rw [this]
      | some x' =>
        obtain ⟨x, h4, h5, _⟩ := pair i x' hx
        rw [h4]
        simp [h5]
    · intro x' hx'
      have hx2 := hx'
      rw [hlist] at hx2
      obtain ⟨i, hi⟩ := List.getElem?_of_mem hx2
      obtain ⟨x, h4, h5, h6⟩ := pair i x' hi
      have hx := List.mem_of_getElem? h4
      rw [samek x hx x' hx' h6, h5]
      exact hl1 x hx
    · intro kl' hk'
      obtain ⟨x, hx, e1⟩ := hl2 kl' hk'
      obtain ⟨i, hi⟩ := List.getElem?_of_mem hx
      obtain ⟨x', h4, h5, h6⟩ := pair' i x hi
      have hx' : x' ∈ (es.modify j (fun e' => { e' with key := key, val := val })).toList := by rw [hlist]; exact List.mem_of_getElem? h4
      exact ⟨x', hx', (samek x hx x' hx' h6).trans e1⟩

/-- .. at the operation -/
theorem wpList_mapUpdate_there {ops : Array Oper} {rest : List Oper} {o : Oper} {a : Act} {Q : Exit → Act → World → Prop}
    (hg : o.guard = none) (m x v : Operand) (t : TypeId) (hop : o.op = Op.mapUpdate t m x v)
    (e : TypeId) (K : Keyed P k) (ht : P.underlying t = some (.map k e))
    (hm : a.eval m = .map (some b)) (h : w.ranges P k R b r n D left cnt) (key val : Value) (kl : Lit) (hx : a.eval x = key) (hv : a.eval v = val) (hkey : keyOf P k key = some kl)
    (d : DataW H) (ps : List MemPlace) (hval : R val = some (d, ps)) (hthere : Maps.has D kl = true)
    (hK : ∀ w', w'.ranges P k R b r n (D.put kl d) left cnt → w.grownBy w' (some b) → wpList P ops Q rest (a.put o.dst undef) w') :
    wpList P ops Q (o :: rest) a w := by
  refine wpList_plain hg fun K' hK' => ?_
  obtain ⟨w', hrun, r1, r2⟩ := ranges_store h K ht hkey hval hthere
  unfold Oper.wp
  simp [execOp, hop, hm, hx, hv, hrun, Result.andThen]
  exact hK' _ _ (hK w' r1 r2.grown)
end
end Go.Proofs.Ytanhdklaponekaa
