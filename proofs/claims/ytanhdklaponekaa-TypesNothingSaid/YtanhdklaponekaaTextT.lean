/- types.Text: what it computes. -/
import Derived.Test.YtanhdklaponekaaTextM
import Derived.Test.YtanhdklaponekaaIdent
namespace Go.Proofs.Ytanhdklaponekaa
open Go Go.RowKit

set_option maxHeartbeats 2000000 in
set_option maxRecDepth 100000 in
theorem text_const {f : T → ByteArray} {t : T} (e : t.kd = 1 ∨ t.kd = 2 ∨ t.kd = 3 ∨ t.kd = 4 ∨ t.kd = 5 ∨ t.kd = 6 ∨ t.kd = 7 ∨ t.kd = 8 ∨ t.kd = 9) : TxtAt (bodyF f) t := by
  intro cs w S hok h hS hb
  obtain ⟨A1, c1, A2, c2, A3, c3, rfl, -, -, hk⟩ := h.forms
  have HT := Lib.hid h
  have HS := Lib.hid hS
  have HOK := Lib.hid hok
  have HK := Lib.hid hk
  clear h hS hok hk hb
  rcases e with e | e | e | e | e | e | e | e | e
  all_goals
    have HE := Lib.hid e
    rw [e]
    clear e
    go_enter Try.func22, Try.ntmps22
    go_wp2_with fail
    go_ret
    exact ⟨by unfold bodyF; rw [HE.out]; rfl, (Below.refl _ _).alloc (Nat.le_refl _) _⟩

set_option maxHeartbeats 2000000 in
set_option maxRecDepth 100000 in
theorem text_10 {f : T → ByteArray} {t : T} (ih : TxtAt f (t.kid 0)) (e : t.kd = 10) : TxtAt (bodyF f) t := by
  intro cs w S hok h hS hb
  obtain ⟨A1, c1, A2, c2, A3, c3, rfl, -, -, hk⟩ := h.forms
  have HT := Lib.hid h
  have HS := Lib.hid hS
  have HOK := Lib.hid hok
  have HK := Lib.hid hk
  have hf : bodyF f t = bs [42] ++ f (t.kid 0) := by unfold bodyF; rw [e]; rfl
  rw [hf, size_app, size_bs] at hb
  simp only [List.length_cons, List.length_nil] at hb
  have HLE : Hid ((f (t.kid 0)).size ≤ Lim) := by unfold Hid; omega
  have hs1 : ¬9223372036854775807 < 1 + (f (t.kid 0)).size := by unfold Lim at hb; omega
  have HF := Lib.hid hf
  have IH := Lib.hid ih
  clear h hS hok hk hb hf ih
  rw [e] at HT ⊢
  have HE := Lib.hid e
  clear e
  go_enter Try.func22, Try.ntmps22
  go_wp2_with fail
  refine (kid_calls (S := S) (HT.out.keep ((SameOn.refl _ _).alloc HS.out _) (fun _ h => h)) (HS.out.alloc _)).mono ?_
  rintro e w1 ⟨ds, rfl, hkd, hb1⟩
  have hz1 := hb1.size
  simp at hz1
  have HBW : Hid (Below w.heap.size w w1) := ((Below.refl _ _).alloc (Nat.le_refl _) _).trans (hb1.mono (by simp))
  have HKD := Lib.hid hkd
  clear hkd hb1
  go_wp2_with fail
  refine (IH.out ds w1 S (ok_kid HOK.out 0) HKD.out (HS.out.below HBW.out) HLE.out).mono ?_
  rintro e w2 ⟨rfl, hb2⟩
  have HBE : Hid (Below w.heap.size w w2) := HBW.out.trans (hb2.mono (by omega))
  clear hb2
  go_wp2_with fail
  go_ret
  exact ⟨by rw [HF.out]; rfl, HBE.out⟩

set_option maxHeartbeats 2000000 in
set_option maxRecDepth 100000 in
theorem text_11 {f : T → ByteArray} {t : T} (ih : TxtAt f (t.kid 0)) (e : t.kd = 11) : TxtAt (bodyF f) t := by
  intro cs w S hok h hS hb
  obtain ⟨A1, c1, A2, c2, A3, c3, rfl, -, -, hk⟩ := h.forms
  have HT := Lib.hid h
  have HS := Lib.hid hS
  have HOK := Lib.hid hok
  have HK := Lib.hid hk
  have hf : bodyF f t = bs [91, 93] ++ f (t.kid 0) := by unfold bodyF; rw [e]; rfl
  rw [hf, size_app, size_bs] at hb
  simp only [List.length_cons, List.length_nil] at hb
  have HLE : Hid ((f (t.kid 0)).size ≤ Lim) := by unfold Hid; omega
  have hs1 : ¬9223372036854775807 < 2 + (f (t.kid 0)).size := by unfold Lim at hb; omega
  have HF := Lib.hid hf
  have IH := Lib.hid ih
  clear h hS hok hk hb hf ih
  rw [e] at HT ⊢
  have HE := Lib.hid e
  clear e
  go_enter Try.func22, Try.ntmps22
  go_wp2_with fail
  refine (kid_calls (S := S) (HT.out.keep ((SameOn.refl _ _).alloc HS.out _) (fun _ h => h)) (HS.out.alloc _)).mono ?_
  rintro e w1 ⟨ds, rfl, hkd, hb1⟩
  have hz1 := hb1.size
  simp at hz1
  have HBW : Hid (Below w.heap.size w w1) := ((Below.refl _ _).alloc (Nat.le_refl _) _).trans (hb1.mono (by simp))
  have HKD := Lib.hid hkd
  clear hkd hb1
  go_wp2_with fail
  refine (IH.out ds w1 S (ok_kid HOK.out 0) HKD.out (HS.out.below HBW.out) HLE.out).mono ?_
  rintro e w2 ⟨rfl, hb2⟩
  have HBE : Hid (Below w.heap.size w w2) := HBW.out.trans (hb2.mono (by omega))
  clear hb2
  go_wp2_with fail
  go_ret
  exact ⟨by rw [HF.out]; rfl, HBE.out⟩

set_option maxHeartbeats 2000000 in
set_option maxRecDepth 100000 in
theorem text_12 {f : T → ByteArray} {t : T} (ih : TxtAt f (t.kid 0)) (e : t.kd = 12) : TxtAt (bodyF f) t := by
  intro cs w S hok h hS hb
  obtain ⟨A1, c1, A2, c2, A3, c3, rfl, -, -, hk⟩ := h.forms
  have HT := Lib.hid h
  have HS := Lib.hid hS
  have HOK := Lib.hid hok
  have HK := Lib.hid hk
  have hf : bodyF f t = bs [99, 104, 97, 110, 32] ++ f (t.kid 0) := by unfold bodyF; rw [e]; rfl
  rw [hf, size_app, size_bs] at hb
  simp only [List.length_cons, List.length_nil] at hb
  have HLE : Hid ((f (t.kid 0)).size ≤ Lim) := by unfold Hid; omega
  have hs1 : ¬9223372036854775807 < 5 + (f (t.kid 0)).size := by unfold Lim at hb; omega
  have HF := Lib.hid hf
  have IH := Lib.hid ih
  clear h hS hok hk hb hf ih
  rw [e] at HT ⊢
  have HE := Lib.hid e
  clear e
  go_enter Try.func22, Try.ntmps22
  go_wp2_with fail
  refine (kid_calls (S := S) (HT.out.keep ((SameOn.refl _ _).alloc HS.out _) (fun _ h => h)) (HS.out.alloc _)).mono ?_
  rintro e w1 ⟨ds, rfl, hkd, hb1⟩
  have hz1 := hb1.size
  simp at hz1
  have HBW : Hid (Below w.heap.size w w1) := ((Below.refl _ _).alloc (Nat.le_refl _) _).trans (hb1.mono (by simp))
  have HKD := Lib.hid hkd
  clear hkd hb1
  go_wp2_with fail
  refine (IH.out ds w1 S (ok_kid HOK.out 0) HKD.out (HS.out.below HBW.out) HLE.out).mono ?_
  rintro e w2 ⟨rfl, hb2⟩
  have HBE : Hid (Below w.heap.size w w2) := HBW.out.trans (hb2.mono (by omega))
  clear hb2
  go_wp2_with fail
  go_ret
  exact ⟨by rw [HF.out]; rfl, HBE.out⟩

set_option maxHeartbeats 2000000 in
set_option maxRecDepth 100000 in
theorem text_13 {f : T → ByteArray} {t : T} (ih : ∀ k ∈ t.ks, TxtAt f k) (ih0 : ∀ k ∈ t.ks, TxtAt f (k.kid 0)) (e : t.kd = 13) : TxtAt (bodyF f) t := by
  intro cs w S hok h hS hb
  obtain ⟨A1, c1, A2, c2, A3, c3, rfl, -, -, hk⟩ := h.forms
  have HT := Lib.hid h
  have HS := Lib.hid hS
  have HOK := Lib.hid hok
  have HK := Lib.hid hk
  have hf : bodyF f t = bs [102, 117, 110, 99] ++ sigF f t := by unfold bodyF; rw [e]; rfl
  rw [hf, size_app, size_bs] at hb
  simp only [List.length_cons, List.length_nil] at hb
  have HLE : Hid ((sigF f t).size ≤ Lim) := by unfold Hid; omega
  have hs1 : ¬9223372036854775807 < 4 + (sigF f t).size := by unfold Lim at hb; omega
  have HF := Lib.hid hf
  have IH := Lib.hid ih
  have IH0 := Lib.hid ih0
  clear h hS hok hk hb hf ih ih0
  rw [e] at HT ⊢
  have HE := Lib.hid e
  clear e
  go_enter Try.func22, Try.ntmps22
  go_wp2_with fail
  refine (sig_calls (S := S) (t := t) IH.out IH0.out HOK.out (HT.out.keep ((SameOn.refl _ _).alloc HS.out _) (fun _ h => h)) (HS.out.alloc _) HLE.out).mono ?_
  rintro e w1 ⟨rfl, hb1⟩
  have hz1 := hb1.size
  simp at hz1
  have HBW : Hid (Below w.heap.size w w1) := ((Below.refl _ _).alloc (Nat.le_refl _) _).trans (hb1.mono (by simp))
  clear hb1
  go_wp2_with fail
  go_ret
  exact ⟨by rw [HF.out]; rfl, HBW.out⟩

set_option maxHeartbeats 2000000 in
set_option maxRecDepth 100000 in
theorem text_14 {f : T → ByteArray} {t : T} (ih : ∀ k ∈ t.ks, TxtAt f k) (e : t.kd = 14) : TxtAt (bodyF f) t := by
  intro cs w S hok h hS hb
  obtain ⟨A1, c1, A2, c2, A3, c3, rfl, -, -, hk⟩ := h.forms
  have HT := Lib.hid h
  have HS := Lib.hid hS
  have HOK := Lib.hid hok
  have HK := Lib.hid hk
  have hf : bodyF f t = bracedF (bs [115, 116, 114, 117, 99, 116]) (fieldsF f t) := by unfold bodyF; rw [e]; rfl
  rw [hf] at hb
  have HLE := Lib.hid hb
  have hlim : t.ks.length ≤ Lim := by have := (ok_kids hok).2; omega
  have HLM := Lib.hid hlim
  have HF := Lib.hid hf
  have IH := Lib.hid ih
  clear h hS hok hk hb hf ih hlim
  rw [e] at HT ⊢
  have HE := Lib.hid e
  clear e
  go_enter Try.func22, Try.ntmps22
  go_wp2_with fail
  refine (fields_calls (S := S) (t := t) IH.out HOK.out (HT.out.keep ((SameOn.refl _ _).alloc HS.out _) (fun _ h => h)) (HS.out.alloc _) (fun i hi => Nat.le_trans (braced_ge (List.mem_map_of_mem (List.mem_range.2 hi))) HLE.out)).mono ?_
  rintro e w1 ⟨v, rfl, ho1, hb1⟩
  have hz1 := hb1.size
  simp at hz1
  have HBW : Hid (Below w.heap.size w w1) := ((Below.refl _ _).alloc (Nat.le_refl _) _).trans (hb1.mono (by simp))
  have hL := strs_row ho1
  have HL : Hid (Row w1 (fun b => v.ownBlock = some b) 1 v (fieldsF f t).length ((fieldsF f t).map .string)) := hL
  have HOL : Hid (Old (fun b => v.ownBlock = some b) w1) := fun b hb => (ho1.lt b hb).2
  have HLL : Hid ((fieldsF f t).length ≤ Lim) := by unfold Hid fieldsF; rw [List.length_map, List.length_range]; exact HLM.out
  clear hb1 ho1 hL
  go_wp2_with fail
  refine (braced_calls (head := bs [115, 116, 114, 117, 99, 116]) HL.out HOL.out HLL.out HLE.out).mono ?_
  rintro e w2 ⟨rfl, hb2⟩
  have HBE : Hid (Below w.heap.size w w2) := HBW.out.trans (hb2.mono (by omega))
  clear hb2
  go_wp2_with fail
  go_ret
  exact ⟨by rw [HF.out]; rfl, HBE.out⟩

set_option maxHeartbeats 2000000 in
set_option maxRecDepth 100000 in
theorem text_15 {f : T → ByteArray} {t : T} (ih : ∀ k ∈ t.ks, ∀ x ∈ k.ks, TxtAt f x) (ih0 : ∀ k ∈ t.ks, ∀ x ∈ k.ks, TxtAt f (x.kid 0)) (e : t.kd = 15) : TxtAt (bodyF f) t := by
  intro cs w S hok h hS hb
  obtain ⟨A1, c1, A2, c2, A3, c3, rfl, -, -, hk⟩ := h.forms
  have HT := Lib.hid h
  have HS := Lib.hid hS
  have HOK := Lib.hid hok
  have HK := Lib.hid hk
  have hf : bodyF f t = methsF f t := by unfold bodyF; rw [e]; rfl
  rw [hf] at hb
  have HLE := Lib.hid hb
  have HF := Lib.hid hf
  have IH := Lib.hid ih
  have IH0 := Lib.hid ih0
  clear h hS hok hk hb hf ih ih0
  rw [e] at HT ⊢
  have HE := Lib.hid e
  clear e
  go_enter Try.func22, Try.ntmps22
  go_wp2_with fail
  refine (methods_calls (S := S) (t := t) IH.out IH0.out HOK.out (HT.out.keep ((SameOn.refl _ _).alloc HS.out _) (fun _ h => h)) (HS.out.alloc _) HLE.out).mono ?_
  rintro e w1 ⟨rfl, hb1⟩
  have hz1 := hb1.size
  simp at hz1
  have HBW : Hid (Below w.heap.size w w1) := ((Below.refl _ _).alloc (Nat.le_refl _) _).trans (hb1.mono (by simp))
  clear hb1
  go_wp2_with fail
  go_ret
  exact ⟨by rw [HF.out]; rfl, HBW.out⟩

set_option maxHeartbeats 2000000 in
set_option maxRecDepth 100000 in
theorem text_16 {f : T → ByteArray} {t : T} (ih : ∀ k ∈ t.ks, TxtAt f k) (e : t.kd = 16) : TxtAt (bodyF f) t := by
  intro cs w S hok h hS hb
  obtain ⟨A1, c1, A2, c2, A3, c3, rfl, -, -, hk⟩ := h.forms
  have HT := Lib.hid h
  have HS := Lib.hid hS
  have HOK := Lib.hid hok
  have HK := Lib.hid hk
  by_cases h1 : t.n = 1
  · have HF : Hid (bodyF f t = bs [99, 111, 109, 112, 97, 114, 97, 98, 108, 101]) := by unfold Hid bodyF; rw [e, h1]; rfl
    clear h hS hok hk hb ih
    rw [e, h1]
    clear e h1
    go_enter Try.func22, Try.ntmps22
    go_wp2_with fail
    go_ret
    exact ⟨by rw [HF.out]; rfl, (Below.refl _ _).alloc (Nat.le_refl _) _⟩
  have hf : bodyF f t = joinF f t.ks (bs [32, 124, 32]) := by unfold bodyF; rw [e, if_neg h1]; rfl
  rw [hf] at hb
  have HLE := Lib.hid hb
  have HF := Lib.hid hf
  have IH := Lib.hid ih
  have hn1 : (t.n == 1) = false := by simpa using h1
  clear h hS hok hk hb hf ih h1
  rw [e] at HT ⊢
  have HE := Lib.hid e
  clear e
  go_enter Try.func22, Try.ntmps22
  go_wp2_with fail
  refine (join_calls (f := f) (sep := bs [32, 124, 32]) (S := S) IH.out (ok_kids HOK.out).1 (ok_kids HOK.out).2 (HK.out.keep ((SameOn.refl _ _).alloc HS.out _) (fun _ h => h)) (HS.out.alloc _) HLE.out).mono ?_
  rintro e w1 ⟨rfl, hb1⟩
  have hz1 := hb1.size
  simp at hz1
  have HBW : Hid (Below w.heap.size w w1) := ((Below.refl _ _).alloc (Nat.le_refl _) _).trans (hb1.mono (by simp))
  clear hb1
  go_wp2_with fail
  go_ret
  exact ⟨by rw [HF.out]; rfl, HBW.out⟩

set_option maxHeartbeats 2000000 in
set_option maxRecDepth 100000 in
theorem text_17 {f : T → ByteArray} {t : T} (ih : ∀ k ∈ t.ks, TxtAt f k) (e : t.kd = 17) : TxtAt (bodyF f) t := by
  intro cs w S hok h hS hb
  obtain ⟨A1, c1, A2, c2, A3, c3, rfl, -, -, hk⟩ := h.forms
  have HT := Lib.hid h
  have HS := Lib.hid hS
  have HOK := Lib.hid hok
  have HK := Lib.hid hk
  have hf : bodyF f t = bs [40] ++ joinF f t.ks (bs [44, 32]) ++ bs [41] := by unfold bodyF; rw [e]; rfl
  rw [hf, size_app, size_app, size_bs, size_bs] at hb
  simp only [List.length_cons, List.length_nil] at hb
  have HLE : Hid ((joinF f t.ks (bs [44, 32])).size ≤ Lim) := by unfold Hid; omega
  have hs1 : ¬9223372036854775807 < 1 + (joinF f t.ks (bs [44, 32])).size := by unfold Lim at hb; omega
  have hs2 : ¬9223372036854775807 < 1 + (joinF f t.ks (bs [44, 32])).size + 1 := by unfold Lim at hb; omega
  have HF := Lib.hid hf
  have IH := Lib.hid ih
  clear h hS hok hk hb hf ih
  rw [e] at HT ⊢
  have HE := Lib.hid e
  clear e
  go_enter Try.func22, Try.ntmps22
  go_wp2_with fail
  refine (join_calls (f := f) (sep := bs [44, 32]) (S := S) IH.out (ok_kids HOK.out).1 (ok_kids HOK.out).2 (HK.out.keep ((SameOn.refl _ _).alloc HS.out _) (fun _ h => h)) (HS.out.alloc _) HLE.out).mono ?_
  rintro e w1 ⟨rfl, hb1⟩
  have hz1 := hb1.size
  simp at hz1
  have HBW : Hid (Below w.heap.size w w1) := ((Below.refl _ _).alloc (Nat.le_refl _) _).trans (hb1.mono (by simp))
  clear hb1
  go_wp2_with fail
  go_ret
  exact ⟨by rw [HF.out]; rfl, HBW.out⟩

set_option maxHeartbeats 2000000 in
set_option maxRecDepth 100000 in
theorem text_else {f : T → ByteArray} {t : T} (n1 : ¬t.kd = 1) (n2 : ¬t.kd = 2) (n3 : ¬t.kd = 3) (n4 : ¬t.kd = 4) (n5 : ¬t.kd = 5) (n6 : ¬t.kd = 6) (n7 : ¬t.kd = 7) (n8 : ¬t.kd = 8) (n9 : ¬t.kd = 9) (n10 : ¬t.kd = 10) (n11 : ¬t.kd = 11) (n12 : ¬t.kd = 12) (n13 : ¬t.kd = 13) (n14 : ¬t.kd = 14) (n15 : ¬t.kd = 15) (n16 : ¬t.kd = 16) (n17 : ¬t.kd = 17) : TxtAt (bodyF f) t := by
  intro cs w S hok h hS hb
  obtain ⟨A1, c1, A2, c2, A3, c3, rfl, -, -, hk⟩ := h.forms
  have HT := Lib.hid h
  have HS := Lib.hid hS
  have HOK := Lib.hid hok
  have HK := Lib.hid hk
  have HF : Hid (bodyF f t = ByteArray.empty) := by unfold Hid bodyF; simp only [n1, n2, n3, n4, n5, n6, n7, n8, n9, n10, n11, n12, n13, n14, n15, n16, n17, if_false, or_self]
  have b1 : (t.kd == 1) = false := by simpa using n1
  have b2 : (t.kd == 2) = false := by simpa using n2
  have b3 : (t.kd == 3) = false := by simpa using n3
  have b4 : (t.kd == 4) = false := by simpa using n4
  have b5 : (t.kd == 5) = false := by simpa using n5
  have b6 : (t.kd == 6) = false := by simpa using n6
  have b7 : (t.kd == 7) = false := by simpa using n7
  have b8 : (t.kd == 8) = false := by simpa using n8
  have b9 : (t.kd == 9) = false := by simpa using n9
  have b10 : (t.kd == 10) = false := by simpa using n10
  have b11 : (t.kd == 11) = false := by simpa using n11
  have b12 : (t.kd == 12) = false := by simpa using n12
  have b13 : (t.kd == 13) = false := by simpa using n13
  have b14 : (t.kd == 14) = false := by simpa using n14
  have b15 : (t.kd == 15) = false := by simpa using n15
  have b16 : (t.kd == 16) = false := by simpa using n16
  have b17 : (t.kd == 17) = false := by simpa using n17
  clear h hS hok hk hb n1 n2 n3 n4 n5 n6 n7 n8 n9 n10 n11 n12 n13 n14 n15 n16 n17
  go_enter Try.func22, Try.ntmps22
  go_wp2_with fail
  go_ret
  exact ⟨by rw [HF.out]; rfl, (Below.refl _ _).alloc (Nat.le_refl _) _⟩

theorem text_step {f : T → ByteArray} {t : T} (ih : ∀ k ∈ t.ks, TxtAt f k ∧ TxtAt f (k.kid 0) ∧ ∀ x ∈ k.ks, TxtAt f x ∧ TxtAt f (x.kid 0)) (ihz : t.kd = 10 ∨ t.kd = 11 ∨ t.kd = 12 → TxtAt f (t.kid 0)) : TxtAt (bodyF f) t := by
  by_cases n1 : t.kd = 1
  · exact text_const (by omega)
  by_cases n2 : t.kd = 2
  · exact text_const (by omega)
  by_cases n3 : t.kd = 3
  · exact text_const (by omega)
  by_cases n4 : t.kd = 4
  · exact text_const (by omega)
  by_cases n5 : t.kd = 5
  · exact text_const (by omega)
  by_cases n6 : t.kd = 6
  · exact text_const (by omega)
  by_cases n7 : t.kd = 7
  · exact text_const (by omega)
  by_cases n8 : t.kd = 8
  · exact text_const (by omega)
  by_cases n9 : t.kd = 9
  · exact text_const (by omega)
  by_cases n10 : t.kd = 10
  · exact text_10 (ihz (by omega)) n10
  by_cases n11 : t.kd = 11
  · exact text_11 (ihz (by omega)) n11
  by_cases n12 : t.kd = 12
  · exact text_12 (ihz (by omega)) n12
  by_cases n13 : t.kd = 13
  · exact text_13 (fun k h => (ih k h).1) (fun k h => (ih k h).2.1) n13
  by_cases n14 : t.kd = 14
  · exact text_14 (fun k h => (ih k h).1) n14
  by_cases n15 : t.kd = 15
  · exact text_15 (fun k h x hx => ((ih k h).2.2 x hx).1) (fun k h x hx => ((ih k h).2.2 x hx).2) n15
  by_cases n16 : t.kd = 16
  · exact text_16 (fun k h => (ih k h).1) n16
  by_cases n17 : t.kd = 17
  · exact text_17 (fun k h => (ih k h).1) n17
  exact text_else n1 n2 n3 n4 n5 n6 n7 n8 n9 n10 n11 n12 n13 n14 n15 n16 n17

theorem sz_ks (t : T) : t.sz = T.szL t.ks + 1 := by obtain ⟨k, nm, n, f, ns, ms, ks⟩ := t; rw [sz_mk]; rfl
theorem sz_mem {t x : T} (h : x ∈ t.ks) : x.sz < t.sz := by
  obtain ⟨i, hi, rfl⟩ := List.getElem_of_mem h
  have := szL_mem hi
  rw [sz_ks t]; omega
theorem txtAt_zero (f : T → ByteArray) (hz : f T.zero = ByteArray.empty) : TxtAt f T.zero := by
  have h : TxtAt (bodyF f) T.zero := text_step (fun k h => by cases h) (fun h => by rw [show T.zero.kd = 0 from rfl] at h; omega)
  intro cs w S h1 h2 h3 h4
  have e : bodyF f T.zero = f T.zero := by
    rw [hz]
    show bodyF f (.mk 0 ByteArray.empty 0 false [] [] []) = _
    unfold bodyF
    rw [show T.kd (.mk 0 ByteArray.empty 0 false [] [] []) = 0 from rfl]
    repeat rw [if_neg (by omega)]
  have := h cs w S h1 h2 h3 (by rw [e]; exact h4)
  rw [e] at this
  exact this
theorem txt_any : ∀ (n : Nat) (t : T), t.sz ≤ n → TxtAt (txt n) t
  | 0, t, h => by rw [sz_ks] at h; omega
  | n + 1, t, h => by
    have hk : ∀ (x : T) (i : Nat), (∀ y ∈ x.ks, y.sz ≤ n) → TxtAt (txt n) (x.kid i) := fun x i hx => by
      by_cases hi : i < x.ks.length
      · rw [T.kid_at hi]; exact txt_any n _ (hx _ (List.getElem_mem hi))
      · rw [T.kid_out (by omega)]; exact txtAt_zero _ (txt_zero n)
    have h1 : ∀ k ∈ t.ks, k.sz ≤ n := fun k hk => by have := sz_mem hk; omega
    have h2 : ∀ k ∈ t.ks, ∀ x ∈ k.ks, x.sz ≤ n := fun k hk x hx => by have := sz_mem hk; have := sz_mem hx; omega
    have h3 : ∀ k ∈ t.ks, ∀ x ∈ k.ks, ∀ y ∈ x.ks, y.sz ≤ n := fun k hk x hx y hy => by have := sz_mem hk; have := sz_mem hx; have := sz_mem hy; omega
    exact text_step (f := txt n) (fun k hk1 => ⟨txt_any n k (h1 k hk1), hk k 0 (h2 k hk1), fun x hx => ⟨txt_any n x (h2 k hk1 x hx), hk x 0 (h3 k hk1 x hx)⟩⟩) (fun _ => hk t 0 h1)
end Go.Proofs.Ytanhdklaponekaa
