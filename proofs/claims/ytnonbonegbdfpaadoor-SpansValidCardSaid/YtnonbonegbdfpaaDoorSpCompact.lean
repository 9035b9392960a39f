/- slices.Compact of a row of edits of the call's own. -/
import Derived.Test.YtnonbonegbdfpaaDoorSpRow
namespace Go.Proofs.YtnonbonegbdfpaaDoor
open Go Go.RowKit

def dE : Ed := ⟨ByteArray.empty, 0, 0, ByteArray.empty⟩
def eAt (l : List Ed) (i : Nat) : Ed := (l[i]?).getD dE
theorem eAt_at {l : List Ed} {i : Nat} (h : i < l.length) : eAt l i = l[i] := by rw [eAt, List.getElem?_eq_getElem h]; rfl
/-- the first j, each run of equals once -/
def cptN (l : List Ed) : Nat → List Ed
  | 0 => []
  | j + 1 => if j ≠ 0 ∧ eqE (eAt l j) (eAt l (j - 1)) = true then cptN l j else cptN l j ++ [eAt l j]
def cpt (l : List Ed) : List Ed := cptN l l.length
theorem cptN_len (l : List Ed) : ∀ j, (cptN l j).length ≤ j
  | 0 => by simp [cptN]
  | j + 1 => by
    have := cptN_len l j
    rw [cptN]
    split
    · omega
    · simp; omega
theorem cptN_short (l : List Ed) {k : Nat} (hk : 0 < k) (h : eqE (eAt l k) (eAt l (k - 1)) = true) : ∀ d, (cptN l (k + 1 + d)).length ≤ k + d
  | 0 => by
    have := cptN_len l k
    rw [Nat.add_zero, cptN, if_pos ⟨by omega, h⟩]; omega
  | d + 1 => by
    have := cptN_short l hk h d
    rw [show k + 1 + (d + 1) = (k + 1 + d) + 1 from rfl, cptN]
    split
    · omega
    · simp; omega
theorem cptN_all (l : List Ed) : ∀ {j : Nat}, (∀ i, 0 < i → i < j → eqE (eAt l i) (eAt l (i - 1)) = false) → j ≤ l.length → cptN l j = l.take j
  | 0, _, _ => by simp [cptN]
  | j + 1, h, hj => by
    rw [cptN, cptN_all l (fun i h1 h2 => h i h1 (by omega)) (by omega), List.take_succ_eq_append_getElem (by omega), eAt_at (show j < l.length by omega)]
    by_cases h0 : j = 0
    · rw [if_neg (fun h => h.1 h0)]
    · rw [if_neg]
      rintro ⟨_, h2⟩
      have := h j (by omega) (by omega)
      rw [eAt_at (show j < l.length by omega)] at this
      rw [this] at h2
      cases h2

/-- what Compact hands back: a row of its own in the array that was handed in -/
def CptRes (base : Nat) (v : Value) (l : List Ed) (w : World) (e : Ending) (w' : World) : Prop :=
  ∃ u, e = .returned u ∧ w'.ownsRow base 42 4 u (cpt l).length (flat (cpt l)) ∧ (u = .slice none 0 0 ↔ v = .slice none 0 0) ∧ u.ownBlock = v.ownBlock ∧ Below base w w' ∧ w'.heap.size = w.heap.size

/-- the second loop's state -/
structure Cp (base g cap : Nat) (l : List Ed) (w wr : World) (k0 j k : Nat) (arr : List Ed) : Prop where
  own : wr.ownsRow base 42 4 (.slice (some ⟨g, 0, none⟩) l.length cap) l.length (flat arr)
  len : arr.length = l.length
  kk : k = (cptN l j).length
  pre : arr.take k = cptN l j
  post : ∀ i, j - 1 ≤ i → i < l.length → eAt arr i = eAt l i
  below : Below base w wr
  size : wr.heap.size = w.heap.size
  short : k + 1 ≤ j
  jk : k0 + 1 ≤ j

theorem Cp.skip {base g cap k0 j k : Nat} {l arr : List Ed} {w wr w' : World} (h : Cp base g cap l w wr k0 j k arr) (hj : j ≠ 0) (he : eqE (eAt l j) (eAt l (j - 1)) = true) (hw : ∃ q, w' = wr.drewN q) : Cp base g cap l w w' k0 (j + 1) k arr := by
  obtain ⟨q, rfl⟩ := hw
  have e : cptN l (j + 1) = cptN l j := by rw [cptN, if_pos ⟨hj, he⟩]
  exact ⟨own_below h.own (below_drewN (Below.refl _ _) q), h.len, by rw [e]; exact h.kk, by rw [e]; exact h.pre, fun i h1 h2 => h.post i (by omega) h2, below_drewN h.below q, h.size, by have := h.short; omega, by have := h.jk; omega⟩
theorem Cp.put {base g cap k0 j k : Nat} {l arr : List Ed} {w wr w' : World} (h : Cp base g cap l w wr k0 j k arr) (hl : j < l.length) (he : eqE (eAt l j) (eAt l (j - 1)) = false)
    (hw : ∃ q, w' = ((((wr.drewN q).setCell ⟨g, k * 4, none⟩ (.string l[j].p)).setCell ⟨g, k * 4 + 1, none⟩ (.int .i64 l[j].fr)).setCell ⟨g, k * 4 + 2, none⟩ (.int .i64 l[j].to)).setCell ⟨g, k * 4 + 3, none⟩ (.string l[j].tx)) (hb : base ≤ g) :
    Cp base g cap l w w' k0 (j + 1) (k + 1) (arr.set k l[j]) := by
  obtain ⟨q, rfl⟩ := hw
  have e : cptN l (j + 1) = cptN l j ++ [l[j]] := by rw [cptN, if_neg (fun h => by rw [h.2] at he; cases he), eAt_at hl]
  have hs := h.short
  have hlen := h.len
  refine ⟨own_set4 (own_below h.own (below_drewN (Below.refl _ _) q)) l[j] (by omega), by simpa using h.len, by rw [e]; simp [h.kk], ?_, fun i h1 h2 => ?_, ?_, ?_, by omega, by have := h.jk; omega⟩
  · rw [e, ← h.pre, List.take_succ_eq_append_getElem (by simp; omega), List.take_set_of_le (by omega)]
    simp
  · have := h.post i (by omega) h2
    rw [eAt, List.getElem?_set_ne (by omega)]
    exact this
  · exact ((((below_drewN h.below q).setCell hb _).setCell hb _).setCell hb _).setCell hb _
  · simpa [World.setCell] using h.size

set_option maxHeartbeats 4000000 in
set_option maxRecDepth 100000 in
theorem compact_calls {base : Nat} {l : List Ed} {v : Value} {w : World} (hlim : l.length * 48 ≤ 140737488355328) (h : w.ownsRow base 42 4 v l.length (flat l)) :
    Calls Tryd.prog 41 #[v] w (CptRes base v l w) := by
  have hlen : l.length ≤ 9223372036854775807 := by omega
  by_cases h2 : l.length < 2
  · have hc : cpt l = l := by
      unfold cpt
      rw [cptN_all l (fun i h1 h3 => by omega) (Nat.le_refl _), List.take_length]
    have H := Lib.hid h
    have HC := Lib.hid hc
    obtain ⟨A, c, rfl⟩ := own_form h
    have h2i : (l.length : Int) < 2 := by omega
    clear h hc h2
    go_enter Tryd.func41, Tryd.ntmps41
    go_wp2_with fail
    go_ret
    exact ⟨_, rfl, by rw [HC.out]; exact H.out, Iff.rfl, rfl, Below.refl _ _, rfl⟩
  obtain ⟨g, cap, rfl, -⟩ := h.form (by omega)
  have hgl := h.lt g rfl
  have hcap : l.length ≤ cap := by
    rcases h.2 with ⟨h1, h2⟩ | ⟨g', c', cur, h1, h3, h4, h5, h6⟩
    · cases h1
    · cases h1; exact h5
  have H := Lib.hid h
  have hgd := ed_guard
  have h2i : ¬(l.length : Int) < 2 := by omega
  clear h h2
  go_enter Tryd.func41, Tryd.ntmps41
  go_wp2_with fail
  go_loopg [3] (l.length - 1) (fun d kv wr => ∃ (k q : Nat), d = l.length - k ∧ 1 ≤ k ∧ k ≤ l.length ∧ kv = .int .i64 k ∧ wr = w.drewN q ∧ Hid (∀ i, 0 < i → i < k → eqE (eAt l i) (eAt l (i - 1)) = false))
  case atStart => exact ⟨1, 0, rfl, by omega, by omega, rfl, rfl, fun i h1 h2 => by omega⟩
  case round =>
    obtain ⟨k, q, rfl, hk1, hk, rfl, rfl, HNE⟩ := hrel
    by_cases hlt : k < l.length
    · obtain ⟨m, hm⟩ : ∃ m, k = m + 1 := ⟨k - 1, by omega⟩
      have hml : m < l.length := by omega
      obtain ⟨a0, a1, a2, a3⟩ := own_at4 H.out (i := k) hlt rfl
      obtain ⟨b0, b1, b2, b3⟩ := own_at4 H.out (i := m) hml rfl
      have heq := ed_eql l[k] l[m]
      have hl1 : (k : Int) < (l.length : Int) := by omega
      have hl2 : (m : Int) < (l.length : Int) := by omega
      have hkm : (k : Int) - 1 = (m : Int) := by omega
      obtain ⟨b, hbv⟩ : ∃ b, eqE l[k] l[m] = b := ⟨_, rfl⟩
      rw [hbv] at heq
      have HBV : Hid (eqE (eAt l k) (eAt l (k - 1)) = b) := by unfold Hid; rw [eAt_at hlt, show k - 1 = m from by omega, eAt_at hml]; exact hbv
      have HM := Lib.hid hm
      clear hbv hm
      cases b with
      | false =>
        go_wp2_with fail
        go_quiet (fail)
        go_wp2_with fail
        go_roundg (l.length - (k + 1))
        case measure => omega
        case rel =>
          refine ⟨k + 1, _, rfl, by omega, by omega, by go_num, rfl, fun i h1 h2 => ?_⟩
          by_cases e : i < k
          · exact HNE.out i h1 e
          · obtain rfl : i = k := by omega
            exact HBV.out
      | true =>
        have hcne : ¬cap = k := by omega
        have HCP0 : ∀ q', Hid (Cp base g cap l w (w.drewN q') k (k + 1) k l) := fun q' => by
          have e1 : cptN l k = l.take k := cptN_all l HNE.out (by omega)
          have e2 : cptN l (k + 1) = l.take k := by rw [cptN, if_pos ⟨by omega, HBV.out⟩, e1]
          exact ⟨own_below H.out (below_drewN (Below.refl _ _) q'), rfl, by rw [e2, List.length_take]; omega, by rw [e2], fun _ _ _ => rfl, below_drewN (Below.refl _ _) q', rfl, by omega, by omega⟩
        go_wp2_with fail
        go_quiet (fail)
        go_wp2_with fail
        obtain ⟨N2, hN2⟩ : ∃ N2, l.length - k = N2 := ⟨_, rfl⟩
        clear a0 a1 a2 a3 b0 b1 b2 b3 heq hkm hl1 hl2
        go_loopg [3, 5] (l.length - (k + 1)) (fun d kk k2 wr => ∃ (j kc : Nat) (arr : List Ed), d = l.length - (k + j) ∧ 1 ≤ j ∧ k + j ≤ l.length ∧ kk = .int .i64 kc ∧ k2 = .int .i64 j ∧ Hid (Cp base g cap l w wr k (k + j) kc arr))
        case atStart => exact ⟨1, k, l, rfl, by omega, by omega, rfl, rfl, HCP0 _⟩
        case round =>
          obtain ⟨j, kc, arr, rfl, hj1, hj, rfl, rfl, HC⟩ := hrel
          clear HCP0
          have hkc := HC.out.short
          have hal := HC.out.len
          have hwz := HC.out.size
          have hgr : g < wr.heap.size := by omega
          by_cases hlt2 : k + j < l.length
          · have hkal : kc < arr.length := by omega
            have cc := own_at4 HC.out.own (i := kc) hkal hal
            obtain ⟨m2, hm2⟩ : ∃ m2, j = m2 + 1 := ⟨j - 1, by omega⟩
            have hml2 : k + m2 < l.length := by omega
            have e1 : arr[k + j]'(by omega) = l[k + j] := by
              have := HC.out.post (k + j) (by omega) hlt2
              rwa [eAt_at (by omega), eAt_at hlt2] at this
            have e2 : arr[k + m2]'(by omega) = l[k + m2] := by
              have := HC.out.post (k + m2) (by omega) hml2
              rwa [eAt_at (by omega), eAt_at hml2] at this
            have aa := own_at4 HC.out.own (i := k + j) (by omega) hal
            have bb := own_at4 HC.out.own (i := k + m2) (by omega) hal
            have hfz := HC.out.own.frozenAt
            rw [e1, show (k + j) * 4 = k * 4 + j * 4 from by omega] at aa
            rw [e2, show (k + m2) * 4 = k * 4 + m2 * 4 from by omega] at bb
            obtain ⟨a0, a1, a2, a3⟩ := aa
            obtain ⟨b0, b1, b2, b3⟩ := bb
            obtain ⟨c0, c1, c2, c3⟩ := cc
            have heq := ed_eql l[k + j] l[k + m2]
            have hl1 : (j : Int) < (N2 : Int) := by omega
            have hl2 : (m2 : Int) < (N2 : Int) := by omega
            have hkm : (j : Int) - 1 = (m2 : Int) := by omega
            have hkl : (kc : Int) < (l.length : Int) := by omega
            obtain ⟨b, hbv⟩ : ∃ b, eqE l[k + j] l[k + m2] = b := ⟨_, rfl⟩
            rw [hbv] at heq
            have HB2 : Hid (eqE (eAt l (k + j)) (eAt l (k + j - 1)) = b) := by unfold Hid; rw [eAt_at hlt2, show k + j - 1 = k + m2 from by omega, eAt_at hml2]; exact hbv
            have HM2 := Lib.hid hm2
            clear hbv e1 e2 hm2
            cases b with
            | true =>
              go_wp2_with fail
              go_quiet (fail)
              go_wp2_with fail
              go_roundg (l.length - (k + (j + 1)))
              case measure => omega
              case rel => exact ⟨j + 1, kc, arr, rfl, by omega, by omega, rfl, by go_num, HC.out.skip (by omega) HB2.out ⟨_, rfl⟩⟩
            | false =>
              go_wp2_with fail
              go_quiet (fail)
              go_wp2_with fail
              go_roundg (l.length - (k + (j + 1)))
              case measure => omega
              case rel => exact ⟨j + 1, kc + 1, _, rfl, by omega, by omega, by go_num, by go_num, HC.out.put hlt2 HB2.out ⟨_, rfl⟩ hgl.1⟩
          · have hje : k + j = l.length := by omega
            have hkn : kc < l.length := by omega
            have hcc : ¬cap = kc := by omega
            have hl1 : ¬(j : Int) < (N2 : Int) := by omega
            obtain ⟨vs, hvl, hcl⟩ := run_clear_ed wr g (kc * 4) (l.length - kc) (cap - kc) (by omega) (fun i hi => by
              rw [HC.out.own.cellAt _ (by omega), List.getElem?_eq_getElem (by rw [flat_len]; omega)]; rfl) (fun i _ => HC.out.own.frozenAt _)
            have HFIN : Hid ((wr.setCells g (kc * 4) vs).ownsRow base 42 4 (.slice (some ⟨g, 0, none⟩) kc cap) kc (flat (cpt l))) := by
              obtain ⟨ys, h1, h2⟩ := own_setCells vs (kc * 4) _ _ HC.out.own
              have h3 := own_cut h1 (k := kc) (by omega)
              have e : ys.take (kc * 4) = flat (cpt l) := by
                rw [show flat (cpt l) = (flat arr).take (kc * 4) from by rw [flat_take, HC.out.pre, cpt, hje]]
                apply List.ext_getElem?
                intro i
                rw [List.getElem?_take, List.getElem?_take]
                split
                · exact h2 i (by omega)
                · rfl
              rw [e] at h3
              exact h3
            have HKC : Hid ((cpt l).length = kc) := by rw [cpt, ← hje]; exact HC.out.kk.symm
            have HBE : Hid (Below base w (wr.setCells g (kc * 4) vs)) := below_setCells _ _ _ HC.out.below hgl.1
            have HSZ : Hid ((wr.setCells g (kc * 4) vs).heap.size = w.heap.size) := by unfold Hid; rw [size_setCells]; exact hwz
            have hkl : (kc : Int) < (l.length : Int) := by omega
            clear hvl hkc
            go_wp2_with fail
            go_ret
            exact ⟨_, rfl, by rw [HKC.out]; exact HFIN.out, by simp, rfl, HBE.out, HSZ.out⟩
    · have hke : k = l.length := by omega
      have HC : Hid (cpt l = l) := by unfold Hid cpt; rw [cptN_all l (by rw [← hke]; exact HNE.out) (Nat.le_refl _), List.take_length]
      have hl1 : ¬(k : Int) < (l.length : Int) := by omega
      clear HNE
      go_wp2_with fail
      go_ret
      exact ⟨_, rfl, by rw [HC.out]; exact own_below H.out (below_drewN (Below.refl _ _) _), Iff.rfl, rfl, below_drewN (Below.refl _ _) _, rfl⟩
end Go.Proofs.YtnonbonegbdfpaaDoor
