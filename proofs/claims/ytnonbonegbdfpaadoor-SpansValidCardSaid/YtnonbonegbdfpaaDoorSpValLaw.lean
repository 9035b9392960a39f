/- UTF-8: the document's size of a rune, and the model's decode. Plain Lean. -/
import Derived.Test.YtnonbonegbdfpaaDoorSpPlLaw
import Derived.Lib.DecodeN
import Derived.Laws.Bits64
import Derived.Laws.BitsLemmas
namespace Go.Proofs.YtnonbonegbdfpaaDoor
open Go Go.RowKit Go.Lib

def gb (s : ByteArray) (i : Nat) : Nat := (s.get! i).toNat
theorem gb_lt (s : ByteArray) (i : Nat) : gb s i < 256 := UInt8.toNat_lt _
theorem dec_zero (s : ByteArray) : Utf8.decode s 0 = decodeN s.size (gb s 0) (gb s 1) (gb s 2) (gb s 3) := by
  rw [decode_at]; rfl
def szR (s : ByteArray) : Nat := if Utf8.decode s 0 = (65533, 1) then 0 else (Utf8.decode s 0).2
def lead (b N LE U : Nat) : Prop := (194 ≤ b ∧ b < 224 ∧ N = 2 ∧ LE = 128 ∧ U = b % 32) ∨ (224 ≤ b ∧ b < 240 ∧ N = 3 ∧ LE = 2048 ∧ U = b % 16) ∨ (240 ≤ b ∧ b < 245 ∧ N = 4 ∧ LE = 65536 ∧ U = b % 8)
def uS (s : ByteArray) (U : Nat) : Nat → Nat
  | 0 => U
  | k + 1 => uS s U k * 64 + gb s (k + 1) % 64
def badU (LE u : Nat) : Prop := u < LE ∨ 1114111 < u ∨ (55296 ≤ u ∧ u ≤ 57343)
theorem sz_zero {s : ByteArray} (h : Utf8.decode s 0 = (65533, 1)) : szR s = 0 := if_pos h
theorem sz_some {s : ByteArray} {v N : Nat} (h : Utf8.decode s 0 = (v, N)) (hN : N ≠ 1) : szR s = N := by
  unfold szR
  rw [h, if_neg]
  intro e
  cases e
  exact hN rfl
theorem sz_ascii {s : ByteArray} (h : gb s 0 < 128) : szR s = 1 := by
  have e : Utf8.decode s 0 = (gb s 0, 1) := by rw [dec_zero, decodeN, if_pos h]
  unfold szR
  rw [e, if_neg]
  intro e2
  have := congrArg Prod.fst e2
  simp only at this
  omega
theorem sz_none {s : ByteArray} (h : (128 ≤ gb s 0 ∧ gb s 0 < 194) ∨ 245 ≤ gb s 0) : szR s = 0 := by
  apply sz_zero
  rw [dec_zero]
  have h0 := gb_lt s 0
  unfold decodeN
  rw [if_neg (by omega)]
  (repeat' split) <;> first | rfl | (exfalso; omega)
theorem sz_short {s : ByteArray} {N LE U : Nat} (h : lead (gb s 0) N LE U) (hs : s.size < N) : szR s = 0 := by
  apply sz_zero
  rw [dec_zero]
  unfold decodeN
  unfold lead at h
  rw [if_neg (by omega)]
  (repeat' split) <;> first | rfl | (exfalso; omega)
theorem sz_cont {s : ByteArray} {N LE U j : Nat} (h : lead (gb s 0) N LE U) (h1 : 1 ≤ j) (h2 : j < N) (hc : gb s j / 64 ≠ 2) : szR s = 0 := by
  have hj : (j = 1 ∧ gb s 1 / 64 ≠ 2) ∨ (j = 2 ∧ gb s 2 / 64 ≠ 2) ∨ (j = 3 ∧ gb s 3 / 64 ≠ 2) := by
    unfold lead at h
    have : j = 1 ∨ j = 2 ∨ j = 3 := by omega
    rcases this with rfl | rfl | rfl
    · exact .inl ⟨rfl, hc⟩
    · exact .inr (.inl ⟨rfl, hc⟩)
    · exact .inr (.inr ⟨rfl, hc⟩)
  clear hc
  apply sz_zero
  rw [dec_zero]
  unfold decodeN
  unfold lead at h
  rw [if_neg (by omega)]
  (repeat' split) <;> first | rfl | (exfalso; omega)
theorem sz_bad {s : ByteArray} {N LE U : Nat} (h : lead (gb s 0) N LE U) (hc : ∀ j, 1 ≤ j → j < N → gb s j / 64 = 2) (hb : badU LE (uS s U (N - 1))) : szR s = 0 := by
  unfold lead at h
  unfold badU at hb
  apply sz_zero
  rw [dec_zero]
  rcases h with ⟨a1, a2, rfl, rfl, rfl⟩ | ⟨a1, a2, rfl, rfl, rfl⟩ | ⟨a1, a2, rfl, rfl, rfl⟩
  · have c1 := hc 1 (by omega) (by omega)
    simp only [Nat.reduceSub, uS, Nat.zero_add] at hb
    unfold decodeN
    (repeat' split) <;> first | rfl | (exfalso; omega)
  · have c1 := hc 1 (by omega) (by omega)
    have c2 := hc 2 (by omega) (by omega)
    simp only [Nat.reduceSub, uS, Nat.zero_add, Nat.reduceAdd] at hb
    unfold decodeN
    (repeat' split) <;> first | rfl | (exfalso; omega)
  · have c1 := hc 1 (by omega) (by omega)
    have c2 := hc 2 (by omega) (by omega)
    have c3 := hc 3 (by omega) (by omega)
    simp only [Nat.reduceSub, uS, Nat.zero_add, Nat.reduceAdd] at hb
    unfold decodeN
    (repeat' split) <;> first | rfl | (exfalso; omega)
theorem sz_good {s : ByteArray} {N LE U : Nat} (h : lead (gb s 0) N LE U) (hs : N ≤ s.size) (hc : ∀ j, 1 ≤ j → j < N → gb s j / 64 = 2) (hb : ¬ badU LE (uS s U (N - 1))) : szR s = N := by
  unfold lead at h
  unfold badU at hb
  have e : ∃ v, Utf8.decode s 0 = (v, N) := by
    rw [dec_zero]
    rcases h with ⟨a1, a2, rfl, rfl, rfl⟩ | ⟨a1, a2, rfl, rfl, rfl⟩ | ⟨a1, a2, rfl, rfl, rfl⟩
    · have c1 := hc 1 (by omega) (by omega)
      simp only [Nat.reduceSub, uS, Nat.zero_add] at hb
      unfold decodeN
      (repeat' split) <;> first | exact ⟨_, rfl⟩ | (exfalso; omega)
    · have c1 := hc 1 (by omega) (by omega)
      have c2 := hc 2 (by omega) (by omega)
      simp only [Nat.reduceSub, uS, Nat.zero_add, Nat.reduceAdd] at hb
      unfold decodeN
      (repeat' split) <;> first | exact ⟨_, rfl⟩ | (exfalso; omega)
    · have c1 := hc 1 (by omega) (by omega)
      have c2 := hc 2 (by omega) (by omega)
      have c3 := hc 3 (by omega) (by omega)
      simp only [Nat.reduceSub, uS, Nat.zero_add, Nat.reduceAdd] at hb
      unfold decodeN
      (repeat' split) <;> first | exact ⟨_, rfl⟩ | (exfalso; omega)
  obtain ⟨v, hv⟩ := e
  exact sz_some hv (by omega)

/-! ### a whole text -/
def valF (s : ByteArray) : Nat → Nat → Bool
  | 0, _ => true
  | f + 1, pos => if pos < s.size then (if (Utf8.decode s pos).1 = 0 then false else if Utf8.decode s pos = (65533, 1) then false else valF s f (pos + (Utf8.decode s pos).2)) else true
theorem ext_get {s : ByteArray} {p i : Nat} (hp : p ≤ s.size) (h : p + i < s.size) : (s.extract p s.size).get! i = s.get! (p + i) := by
  have h1 : i < (s.extract p s.size).size := by rw [ByteArray.size_extract]; omega
  have e1 : (s.extract p s.size).get! i = (s.extract p s.size)[i] := by
    show (s.extract p s.size).data[i]! = _
    rw [getElem!_pos (s.extract p s.size).data i h1]; rfl
  have e2 : s.get! (p + i) = s[p + i] := by
    show s.data[p + i]! = _
    rw [getElem!_pos s.data (p + i) h]; rfl
  rw [e1, e2, ByteArray.getElem_extract]
theorem ext_dec {s : ByteArray} {p : Nat} (hp : p < s.size) : Utf8.decode (s.extract p s.size) 0 = Utf8.decode s p := by
  have hz : (s.extract p s.size).size = s.size - p := by rw [ByteArray.size_extract]; omega
  rw [decode_at, decode_at, hz, Nat.sub_zero]
  have h0 : (s.extract p s.size).get! 0 = s.get! p := by rw [ext_get (by omega) (by omega)]; rfl
  rw [h0]
  have key : ∀ i, p + i < s.size → (s.extract p s.size).get! (0 + i) = s.get! (p + i) := fun i h => by rw [Nat.zero_add]; exact ext_get (by omega) h
  unfold decodeN
  by_cases g1 : p + 1 < s.size
  · rw [key 1 g1]
    by_cases g2 : p + 2 < s.size
    · rw [key 2 g2]
      by_cases g3 : p + 3 < s.size
      · rw [key 3 g3]
      · have : ¬ 3 < s.size - p := by omega
        simp only [this, false_and, and_false, if_false]
    · have n2 : ¬ 2 < s.size - p := by omega
      have n3 : ¬ 3 < s.size - p := by omega
      simp only [n2, n3, false_and, and_false, if_false]
  · have n1 : ¬ 1 < s.size - p := by omega
    have n2 : ¬ 2 < s.size - p := by omega
    have n3 : ¬ 3 < s.size - p := by omega
    simp only [n1, n2, n3, false_and, and_false, if_false]
theorem dec_zero_iff (s : ByteArray) : (Utf8.decode s 0).1 = 0 ↔ gb s 0 = 0 := by
  rw [dec_zero]
  have h0 := gb_lt s 0
  unfold decodeN
  (repeat' split) <;> simp only <;> omega
theorem dec_w (s : ByteArray) (p : Nat) (h : p < s.size) : 1 ≤ (Utf8.decode s p).2 ∧ p + (Utf8.decode s p).2 ≤ s.size := by
  rw [decode_at]
  unfold decodeN
  (repeat' split) <;> simp only <;> omega

/-! ### bits -/
theorem band31 : ∀ x : Fin 256, bits .and .i64 ((x.val : Nat) : Int) 31 = ((x.val % 32 : Nat) : Int) := by decide +kernel
theorem band15 : ∀ x : Fin 256, bits .and .i64 ((x.val : Nat) : Int) 15 = ((x.val % 16 : Nat) : Int) := by decide +kernel
theorem band7 : ∀ x : Fin 256, bits .and .i64 ((x.val : Nat) : Int) 7 = ((x.val % 8 : Nat) : Int) := by decide +kernel
theorem band192 : ∀ x : Fin 256, bits .and .u8 ((x.val : Nat) : Int) 192 = ((x.val / 64 * 64 : Nat) : Int) := by decide +kernel
theorem band63 : ∀ x : Fin 256, bits .and .u8 ((x.val : Nat) : Int) 63 = ((x.val % 64 : Nat) : Int) := by decide +kernel
theorem bor64 (u v : Nat) (hu : u < 1099511627776) (hv : v < 64) : bits .or .i64 ((u : Int) * 64) (v : Int) = ((u * 64 + v : Nat) : Int) := by
  have e : u * 64 ||| v = u * 64 + v := by
    have := Nat.shiftLeft_add_eq_or_of_lt (b := v) (i := 6) (by omega) u
    rw [Nat.shiftLeft_eq] at this
    exact this.symm
  have hx : u * 64 ||| v < 2 ^ 63 := by rw [e]; omega
  have h1 : (BitVec.ofInt 64 ((u : Int) * 64)).toNat = u * 64 := by
    rw [show (u : Int) * 64 = ((u * 64 : Nat) : Int) by omega, BitVec.ofInt_natCast, BitVec.toNat_ofNat]; exact Nat.mod_eq_of_lt (by omega)
  have h2 : (BitVec.ofInt 64 (v : Int)).toNat = v := by
    rw [BitVec.ofInt_natCast, BitVec.toNat_ofNat]; exact Nat.mod_eq_of_lt (by omega)
  show IntKind.i64.wrap ((BitVec.ofInt 64 ((u : Int) * 64) ||| BitVec.ofInt 64 (v : Int)).toNat : Int) = _
  rw [BitVec.toNat_or, h1, h2, IntKind.wrap_i64, e]
  omega
end Go.Proofs.YtnonbonegbdfpaaDoor
