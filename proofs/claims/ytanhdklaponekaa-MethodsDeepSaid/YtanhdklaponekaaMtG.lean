/- methods.Set: the names' order. -/
import Derived.Test.YtanhdklaponekaaMtT
import Derived.Test.YtanhdklaponekaaIter
namespace Go.Proofs.Ytanhdklaponekaa
open Go Go.RowKit Go.Sort Go.Shelf

/-- slices.Sort's two contracts at this dump -/
theorem sorts_str (m : Nat) : AnyZ.SortsIn Try.prog Try.sorted75_ren Fence.wide m :=
  ⟨fun blk off cap ss W hH hblk hsz => callsIn_wide.2 (AnyM.slices_Sort_string Try.sort85 blk off cap ss W hH hblk hsz),
   fun p cap W => callsIn_wide.2 (AnyM.slices_Sort_string_none Try.sort85 p cap W)⟩
theorem keys_calls (mb : Option Nat) (W : World) : Calls Try.prog 76 #[.map mb] W fun e w' => e = .returned (.func (.func 86) #[] #[.pointer (some ⟨W.heap.size, 0, none⟩)]) ∧ w' = W.alloc (.cells #[.map mb] 101) :=
  (callsIn_wide (n := 5)).1 (AnyZ.keys_in Try.keys76 Fence.wide 5 trivial rfl mb W)

set_option maxHeartbeats 1000000 in
theorem sortedKeys_calls {H : Type} (b nn : Nat) (D0 : DataW H) (R : Value → Option (DataW H × List MemPlace)) (w : World) (hown : w.ownsMap Try.prog 9 R b nn D0) (hmax : Maps.size D0 ≤ maxLen) (hbytes : Maps.size D0 * 16 ≤ 140737488355328) :
    Calls Try.prog 75 #[.func (.func 86) #[] #[.pointer (some ⟨w.heap.size, 0, none⟩)]] (w.alloc (.cells #[.map (some b)] 101)) fun e w' => ∃ (v : Value) (ss : List (List UInt8)), e = .returned v ∧ ss.Perm (strKeys D0) ∧
      w'.ownsRow (w.alloc (.cells #[.map (some b)] 101)).heap.size 9 1 v ss.length ((ss.mergeSort (fun x y => decide (x ≤ y))).map encStr) ∧ (v = .slice none 0 0 ↔ ss = []) ∧ Below (w.alloc (.cells #[.map (some b)] 101)).heap.size (w.alloc (.cells #[.map (some b)] 101)) w' := by
  have hbl := hown.lt
  have hseq : SeqGives Fence.wide 2 Try.prog 86 #[.pointer (some ⟨w.heap.size, 0, none⟩)] encStr (fun ss => ss.Perm (strKeys D0)) (Maps.size D0) (w.alloc (.cells #[.map (some b)] 101)) :=
    AnyZ.keys_gives (ρ := Try.keys76_ren) { Try.keys76 with } Fence.wide _ trivial rfl (by omega) w.heap.size b nn D0 _ (by simp) (by simp) (by
      obtain ⟨es, clock, hb, Ft, hs, hD⟩ := hown
      exact ⟨es, clock, (Below.heap_alloc _ _ b hbl).trans hb, Ft, hs, hD⟩)
  exact (callsIn_wide (n := 5)).1 (AnyZ.sorted_in Try.sorted75 Fence.wide 5 trivial trivial trivial trivial rfl (by omega) (sorts_str _) (enters_of Try.func85 (by kernel_rfl) rfl) 86 #[.pointer (some ⟨w.heap.size, 0, none⟩)] trivial (enters_of Try.func86 (by kernel_rfl) rfl) _ _ hmax hbytes _ hseq)

def bytesOf (s : ByteArray) : List UInt8 := s.data.toList
theorem bytesOf_inj {s t : ByteArray} (h : bytesOf s = bytesOf t) : s = t := ByteArray.ext (Array.toList_inj.1 h)
/-- names in order, each once -/
structure Ordered (sn : List ByteArray) (names : List ByteArray) : Prop where
  nodup : sn.Nodup
  mem : ∀ s, s ∈ sn ↔ inM names s = true
  sorted : (sn.map bytesOf).Pairwise (fun a b => decide (a ≤ b) = true)
theorem sorted_self {l ss : List (List UInt8)} (hp : ss.Perm l) (hs : l.Pairwise (fun a b => decide (a ≤ b) = true)) : ss.mergeSort (fun x y => decide (x ≤ y)) = l := by
  rw [mergeSort_of_perm hp]
  have tr : ∀ a b c : List UInt8, leB a b = true → leB b c = true → leB a c = true := fun a b c h1 h2 => by simp only [leB, decide_eq_true_eq] at *; exact List.le_trans h1 h2
  have tot : ∀ a b : List UInt8, (leB a b || leB b a) = true := fun a b => by simp only [leB, Bool.or_eq_true, decide_eq_true_eq]; exact List.le_total a b
  refine List.Perm.eq_of_pairwise (le := fun a b => leB a b = true) (fun a b _ _ h1 h2 => ?_) (List.pairwise_mergeSort tr tot l) hs (List.mergeSort_perm l leB)
  simp only [leB, decide_eq_true_eq] at h1 h2
  exact List.le_antisymm h1 h2
/-- what slices.Sorted(maps.Keys(names)) gives -/
theorem sortedNames_calls {w : World} {nm : Nat} {names sn : List ByteArray} (hm : MetR w nm names) (ho : Ordered sn names) (hl : sn.length ≤ 1000000000) :
    Calls Try.prog 75 #[.func (.func 86) #[] #[.pointer (some ⟨w.heap.size, 0, none⟩)]] (w.alloc (.cells #[.map (some nm)] 101)) fun e w' => ∃ (v : Value), e = .returned v ∧
      w'.ownsRow (w.heap.size + 1) 9 1 v sn.length (sn.map .string) ∧ Below (w.heap.size + 1) (w.alloc (.cells #[.map (some nm)] 101)) w' := by
  obtain ⟨D, h1, h2⟩ := hm
  have K := Maps.string_keyed (P := Try.prog) Try.underlying9
  obtain ⟨es, hes, htd⟩ := h1.tidy K
  obtain ⟨es', hes', hks⟩ := h1.keysOf
  have hee : es' = es := by rw [hes] at hes'; simpa using hes'.symm
  subst hee
  have hperm : (sn.map bytesOf).Perm (strKeys D) := by
    rw [hes]
    refine perm_strKeys htd (fun p hp => ?_) ?_ (fun x => ?_)
    · obtain ⟨key, hkey⟩ := hks p hp
      obtain ⟨x, -, hx, -⟩ := Maps.keyOf_str Try.underlying9 hkey
      exact ⟨x, hx⟩
    · exact List.pairwise_map.2 (ho.nodup.imp fun h e => h (bytesOf_inj e))
    · rw [← hes]
      have h3 := (h2 ⟨x.toArray⟩).2
      simp only [keyS] at h3
      rw [h3, ← ho.mem, List.mem_map]
      constructor
      · rintro ⟨s, hs, rfl⟩
        exact hs
      · intro hs
        exact ⟨_, hs, rfl⟩
  have hsz : Maps.size D = sn.length := by
    have := hperm.length_eq
    rw [List.length_map] at this
    rw [this, hes]
    simp [Maps.size, strKeys]
  refine (sortedKeys_calls nm _ D (plainElem Try.prog 3) w h1 (by rw [hsz]; unfold maxLen; omega) (by rw [hsz]; omega)).mono ?_
  rintro e w' ⟨v, ss, rfl, hp, ho', -, hb⟩
  have hss := sorted_self (hp.trans hperm.symm) ho.sorted
  have hlen : ss.length = sn.length := by have := (hp.trans hperm.symm).length_eq; simpa using this
  rw [hss, hlen] at ho'
  have hw : (w.alloc (.cells #[.map (some nm)] 101)).heap.size = w.heap.size + 1 := by simp
  rw [hw] at ho' hb
  refine ⟨v, rfl, ?_, hb⟩
  have he : (sn.map bytesOf).map encStr = sn.map .string := by rw [List.map_map]; rfl
  rw [he] at ho'
  exact ho'
end Go.Proofs.Ytanhdklaponekaa
