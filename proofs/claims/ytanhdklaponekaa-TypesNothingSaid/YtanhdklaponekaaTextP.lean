/- The text of a type, in plain Lean; sizes of its parts. -/
import Derived.Test.YtanhdklaponekaaSubstP
import Derived.Lib.Join
namespace Go.Proofs.Ytanhdklaponekaa
open Go Go.RowKit

def bs (l : List UInt8) : ByteArray := ⟨l.toArray⟩
/-- strings.Join -/
def joinB (l : List ByteArray) (sep : ByteArray) : ByteArray := ⟨(Lib.join (l.map (·.data.toList)) sep.data.toList).toArray⟩
def T.kid (t : T) (i : Nat) : T := (t.ks[i]?).getD T.zero

section
variable (f : T → ByteArray)
def arity (t : T) : Nat := min t.n.toNat t.ks.length
/-- parameter i of n, as told -/
def inF (t : T) (i : Nat) : ByteArray :=
  if t.fl = true ∧ i + 1 = arity t then bs [46, 46, 46] ++ f (if (t.kid i).kd = 11 then (t.kid i).kid 0 else t.kid i) else f (t.kid i)
def insF (t : T) : ByteArray := bs [40] ++ joinB ((List.range (arity t)).map (inF f t)) (bs [44, 32]) ++ bs [41]
def joinF (ts : List T) (sep : ByteArray) : ByteArray := joinB (ts.map f) sep
def sigF (t : T) : ByteArray :=
  match t.ks.drop (arity t) with
  | [] => insF f t
  | [r] => insF f t ++ bs [32] ++ f r
  | rs => insF f t ++ bs [32, 40] ++ joinF f rs (bs [44, 32]) ++ bs [41]
def bracedF (head : ByteArray) (l : List ByteArray) : ByteArray := if l.length = 0 then head ++ bs [32, 123, 125] else head ++ bs [32, 123, 32] ++ joinB l (bs [59, 32]) ++ bs [32, 125]
/-- is field i told by its name? -/
def named (t : T) (i : Nat) : Bool := decide (i < t.ns.length) && (decide (t.ms.length ≤ i) || !((t.ms[i]?).getD false))
def fieldF (t : T) (i : Nat) : ByteArray := if named t i = true then (t.ns[i]?).getD ByteArray.empty ++ bs [32] ++ f (t.kid i) else f (t.kid i)
def fieldsF (t : T) : List ByteArray := (List.range t.ks.length).map (fieldF f t)
def methF (t : T) (i : Nat) : ByteArray := (t.ns[i]?).getD ByteArray.empty ++ sigF f (t.kid i)
def methsF (t : T) : ByteArray := if t.ks.length = 0 then bs [97, 110, 121] else bracedF (bs [105, 110, 116, 101, 114, 102, 97, 99, 101]) ((List.range t.ks.length).map (methF f t))
def bodyF (t : T) : ByteArray :=
  if t.kd = 1 then bs [105, 110, 116] else if t.kd = 2 then bs [115, 116, 114, 105, 110, 103] else if t.kd = 3 then bs [98, 111, 111, 108]
  else if t.kd = 4 then bs [99, 111, 110, 115, 116, 97, 110, 116, 32, 105, 110, 116] else if t.kd = 5 then bs [99, 111, 110, 115, 116, 97, 110, 116, 32, 115, 116, 114, 105, 110, 103]
  else if t.kd = 6 then bs [99, 111, 110, 115, 116, 97, 110, 116, 32, 98, 111, 111, 108] else if t.kd = 7 then bs [110, 105, 108] else if t.kd = 8 ∨ t.kd = 9 then t.nm
  else if t.kd = 10 then bs [42] ++ f (t.kid 0) else if t.kd = 11 then bs [91, 93] ++ f (t.kid 0) else if t.kd = 12 then bs [99, 104, 97, 110, 32] ++ f (t.kid 0)
  else if t.kd = 13 then bs [102, 117, 110, 99] ++ sigF f t else if t.kd = 14 then bracedF (bs [115, 116, 114, 117, 99, 116]) (fieldsF f t)
  else if t.kd = 15 then methsF f t else if t.kd = 16 then (if t.n = 1 then bs [99, 111, 109, 112, 97, 114, 97, 98, 108, 101] else joinF f t.ks (bs [32, 124, 32]))
  else if t.kd = 17 then bs [40] ++ joinF f t.ks (bs [44, 32]) ++ bs [41] else ByteArray.empty
end
/-- types.Text, by fuel -/
def txt : Nat → T → ByteArray
  | 0, _ => ByteArray.empty
  | n + 1, t => bodyF (txt n) t

theorem txt_zero (n : Nat) : txt n T.zero = ByteArray.empty := by
  cases n with
  | zero => rfl
  | succ n =>
    show bodyF (txt n) T.zero = _
    unfold bodyF
    rw [show T.zero.kd = 0 from rfl]
    repeat rw [if_neg (by omega)]

theorem size_bs (l : List UInt8) : (bs l).size = l.length := List.size_toArray
theorem size_app (x y : ByteArray) : (x ++ y).size = x.size + y.size := ByteArray.size_append
theorem size_list (x : ByteArray) : x.data.toList.length = x.size := by rw [Array.length_toList]; rfl
theorem lens_mem : ∀ {l : List (List UInt8)} {x : List UInt8}, x ∈ l → x.length ≤ Lib.lens l
  | y :: l, x, h => by
    rcases List.mem_cons.1 h with rfl | h
    · simp [Lib.lens]
    · have := lens_mem h
      simp only [Lib.lens, List.map_cons, List.sum_cons] at this ⊢
      omega
theorem size_joinB (l : List ByteArray) (sep : ByteArray) : (joinB l sep).size = (Lib.join (l.map (·.data.toList)) sep.data.toList).length := List.size_toArray
theorem joinB_ge {l : List ByteArray} {sep x : ByteArray} (h : x ∈ l) : x.size ≤ (joinB l sep).size := by
  rw [size_joinB]
  cases l with
  | nil => cases h
  | cons y l =>
    rw [List.map_cons, Lib.join_length, ← List.map_cons (f := fun s : ByteArray => s.data.toList)]
    have := lens_mem (List.mem_map_of_mem (f := fun s : ByteArray => s.data.toList) h)
    rw [size_list] at this
    omega
theorem ins_le_sig (f : T → ByteArray) (t : T) : (insF f t).size ≤ (sigF f t).size := by
  unfold sigF
  split
  · exact Nat.le_refl _
  · simp only [size_app]; omega
  · simp only [size_app]; omega
theorem in_le (f : T → ByteArray) (t : T) {i : Nat} (h : i < arity t) : (inF f t i).size ≤ (sigF f t).size := by
  refine Nat.le_trans ?_ (ins_le_sig f t)
  have := joinB_ge (sep := bs [44, 32]) (List.mem_map_of_mem (f := inF f t) (List.mem_range.2 h))
  unfold insF
  simp only [size_app]
  omega
theorem T.kid_at {t : T} {i : Nat} (h : i < t.ks.length) : t.kid i = t.ks[i] := by rw [T.kid, List.getElem?_eq_getElem h]; rfl
theorem T.kid_out {t : T} {i : Nat} (h : t.ks.length ≤ i) : t.kid i = T.zero := by rw [T.kid, List.getElem?_eq_none h]; rfl
theorem ok_kids {t : T} (h : t.ok) : T.okL t.ks ∧ t.ks.length * 112 ≤ Lim := by
  obtain ⟨k, nm, n, f, ns, ms, ks⟩ := t
  rw [T.ok] at h
  exact ⟨h.2.2.2.2.2.2.2, h.2.2.2.2.2.2.1⟩
theorem zero_okay : T.zero.ok := by
  unfold T.zero
  rw [T.ok]
  exact ⟨by unfold i64ok; omega, by unfold i64ok; omega, Nat.zero_le _, by simp, by simp, by simp, by simp, by simp [T.okL]⟩
theorem ok_kid {t : T} (h : t.ok) (i : Nat) : (t.kid i).ok := by
  by_cases hi : i < t.ks.length
  · rw [T.kid_at hi]; exact okL_at (ok_kids h).1 hi
  · rw [T.kid_out (by omega)]; exact zero_okay
theorem sig_0 {f : T → ByteArray} {t : T} {D : List T} (h : t.ks.drop (arity t) = D) (hl : D.length = 0) : sigF f t = insF f t := by
  cases D with
  | nil => unfold sigF; rw [h]
  | cons x r => simp at hl
theorem sig_1 {f : T → ByteArray} {t : T} {D : List T} (h : t.ks.drop (arity t) = D) (hl : D.length = 1) (hp : 0 < D.length) : sigF f t = insF f t ++ bs [32] ++ f (D[0]'hp) := by
  match D, h, hl, hp with
  | [x], h, _, _ => unfold sigF; rw [h]; rfl
theorem sig_2 {f : T → ByteArray} {t : T} {D : List T} (h : t.ks.drop (arity t) = D) (hl : 2 ≤ D.length) : sigF f t = insF f t ++ bs [32, 40] ++ joinF f D (bs [44, 32]) ++ bs [41] := by
  match D, h, hl with
  | x :: y :: r, h, _ => unfold sigF; rw [h]
end Go.Proofs.Ytanhdklaponekaa
