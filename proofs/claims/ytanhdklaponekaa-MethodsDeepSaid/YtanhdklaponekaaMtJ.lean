/- what New asks for, computed; the sample's results. -/
import Derived.Test.YtanhdklaponekaaMtE
namespace Go.Proofs.Ytanhdklaponekaa
open Go Go.RowKit

mutual
def tokB : T → Bool
  | .mk k nm n _ ns ms ks => decide (-1000 ≤ k) && decide (k ≤ 1000) && decide (-1000 ≤ n) && decide (n ≤ 1000) && decide (nm.size ≤ 1000) && ns.all (fun s => decide (s.size ≤ 1000)) && decide (ns.length ≤ 1000) && decide (ms.length ≤ 1000) && decide (ks.length ≤ 1000) && toksB ks
def toksB : List T → Bool
  | [] => true
  | t :: ts => tokB t && toksB ts
end
mutual
theorem tok_of : ∀ {t : T}, tokB t = true → t.ok
  | .mk k nm n _ ns ms ks, h => by
    simp only [tokB, Bool.and_eq_true, decide_eq_true_eq, List.all_eq_true] at h
    obtain ⟨⟨⟨⟨⟨⟨⟨⟨⟨h1, h2⟩, h3⟩, h4⟩, h5⟩, h6⟩, h7⟩, h8⟩, h9⟩, h10⟩ := h
    simp only [T.ok]
    refine ⟨by unfold i64ok; omega, by unfold i64ok; omega, by unfold Lim; omega, fun s hs => by have := h6 s hs; unfold Lim; omega, by unfold Lim; omega, by unfold Lim; omega, by unfold Lim; omega, toks_of h10⟩
theorem toks_of : ∀ {l : List T}, toksB l = true → T.okL l
  | [], _ => by simp [T.okL]
  | t :: ts, h => by
    simp only [toksB, Bool.and_eq_true] at h
    simp only [T.okL]
    exact ⟨tok_of h.1, toks_of h.2⟩
end
def ndB (d : Nd) : Bool := decide (d.nm.size ≤ 1000) && tokB d.un && decide (d.ms.length ≤ 1000) && d.ms.all fun m => decide (m.nm.size ≤ 1000) && tokB m.sig
theorem nd_of {d : Nd} (h : ndB d = true) : d.ok := by
  simp only [ndB, Bool.and_eq_true, decide_eq_true_eq, List.all_eq_true] at h
  obtain ⟨⟨⟨h1, h2⟩, h3⟩, h4⟩ := h
  exact ⟨by unfold Lim; omega, tok_of h2, by unfold Lim; omega, fun m hm => ⟨by have := (h4 m hm).1; unfold Lim; omega, tok_of (h4 m hm).2⟩⟩
def nodB : List ByteArray → Bool
  | [] => true
  | s :: l => !(l.any fun x => decide (x = s)) && nodB l
theorem nod_of : ∀ {l : List ByteArray}, nodB l = true → l.Nodup
  | [], _ => List.nodup_nil
  | s :: l, h => by
    simp only [nodB, Bool.and_eq_true, Bool.not_eq_true', List.any_eq_false, decide_eq_true_eq] at h
    exact List.nodup_cons.2 ⟨fun hm => h.1 s hm rfl, nod_of h.2⟩
def circB (L : List Nd) (d : Nd) : Bool := match holdsP L d.nm 60 (nameT d.nm) [] with
  | some (false, m) => decide (m.length ≤ 1000)
  | _ => false
theorem circ_of {L : List Nd} {d : Nd} (h : circB L d = true) : ∃ n, circP L d.nm n false := by
  unfold circB at h
  split at h
  · rename_i m hm
    exact ⟨60, m, hm, by have := of_decide_eq_true h; omega⟩
  · exact absurd h (by simp)
def fitB (L : List Nd) : Bool := L.all ndB && decide (L.length ≤ 1000) && nodB (L.map (·.nm)) && L.all (circB L) && L.all fun d => everyB (knownB L) d.un && d.ms.all fun m => everyB (knownB L) m.sig
theorem fit_of {L : List Nd} (h : fitB L = true) : Fit L := by
  simp only [fitB, Bool.and_eq_true, decide_eq_true_eq, List.all_eq_true] at h
  obtain ⟨⟨⟨⟨h1, h2⟩, h3⟩, h4⟩, h5⟩ := h
  exact ⟨fun d hd => nd_of (h1 d hd), by omega, nod_of h3, fun d hd => circ_of (h4 d hd), fun d hd => (h5 d hd).1, fun d hd m hm => (h5 d hd).2 m hm⟩
def undB (L : List Nd) : Bool := L.all fun d => decide (d.un.kd ≠ 8)
theorem und_of {L : List Nd} (h : undB L = true) : UndF L (U1 L) := by
  unfold undB at h
  rw [List.all_eq_true] at h
  exact und1 fun d hd => of_decide_eq_true (h d hd)

theorem sam_fit : Fit samL := fit_of (by kernel_rfl)
theorem sam_und : UndF samL (U1 samL) := und_of (by kernel_rfl)
def emptyB (s : List Fd) : Bool := s.isEmpty
theorem empty_of (s : List Fd) (h : emptyB s = true) : s = [] := by unfold emptyB at h; simpa using h
def namesB (s : List ByteArray) : Bool := decide (s.length ≤ 1000)
theorem names_of (s : List ByteArray) (h : namesB s = true) : s.length ≤ 1000000000 := by have := of_decide_eq_true h; omega
def samF : List Fd := [⟨7, mU, k0T 1, [0, 0], false, false⟩]
theorem sam_look : runB samL (U1 samL) (stepL sy false) (contL sy false) emptyB 6 [] [(nameT mT, [])] [] = some samF := by kernel_rfl
def samM (df : Bool) : List Fd := [⟨6, mU, k0T 13, [0], true, df⟩]
theorem sam_lookM (df : Bool) : runB samL (U1 samL) (stepL sM df) (contL sM df) emptyB 6 [] [(nameT mT, [])] [] = some (samM df) := by cases df <;> kernel_rfl
theorem sam_names : runB samL (U1 samL) stepS (fun _ _ => true) namesB 6 [] [(nameT mT, [])] [] = some [sM] := by kernel_rfl
end Go.Proofs.Ytanhdklaponekaa
