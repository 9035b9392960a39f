/- types.Identical: the plain function, and that the code computes it. -/
import Derived.Test.YtanhdklaponekaaEqual
import Derived.Test.YtanhdklaponekaaOwns
namespace Go.Proofs.Ytanhdklaponekaa
open Go Go.RowKit

mutual
def ident : T → T → Bool
  | .mk k nm n f ns ms ks, .mk k' nm' n' f' ns' ms' ks' => decide (k = k') && (decide (nm = nm') && (decide (n = n') && (decide (k = 9) || (decide (f = f') && (decide (ns = ns') && (decide (ms = ms') && identL ks ks'))))))
def identL : List T → List T → Bool
  | [], [] => true
  | a :: xs, b :: ys => ident a b && identL xs ys
  | [], _ :: _ => false
  | _ :: _, [] => false
end
theorem identL_len : ∀ {xs ys : List T}, xs.length ≠ ys.length → identL xs ys = false
  | [], [], h => absurd rfl h
  | a :: xs, b :: ys, h => by rw [identL, identL_len (fun e => h (by simp [e])), Bool.and_false]
  | [], b :: ys, _ => by rw [identL]
  | a :: xs, [], _ => by rw [identL]

theorem equal_strs_t {w : World} {S S' : Nat → Prop} {v v' : Value} {xs ys : List ByteArray} (h : Row w S 1 v xs.length (xs.map .string)) (h' : Row w S' 1 v' ys.length (ys.map .string)) (e : xs = ys) :
    Calls Try.prog 37 #[v, v'] w fun e w' => e = .returned (.bool true) ∧ ∃ q, w' = w.drewN q := by
  have := equal_strs w S S' v v' xs ys h h'; rw [decide_eq_true e] at this; exact this
theorem equal_strs_f {w : World} {S S' : Nat → Prop} {v v' : Value} {xs ys : List ByteArray} (h : Row w S 1 v xs.length (xs.map .string)) (h' : Row w S' 1 v' ys.length (ys.map .string)) (e : ¬ xs = ys) :
    Calls Try.prog 37 #[v, v'] w fun e w' => e = .returned (.bool false) ∧ ∃ q, w' = w.drewN q := by
  have := equal_strs w S S' v v' xs ys h h'; rw [decide_eq_false e] at this; exact this
theorem equal_bools_t {w : World} {S S' : Nat → Prop} {v v' : Value} {xs ys : List Bool} (h : Row w S 1 v xs.length (xs.map .bool)) (h' : Row w S' 1 v' ys.length (ys.map .bool)) (e : xs = ys) :
    Calls Try.prog 38 #[v, v'] w fun e w' => e = .returned (.bool true) ∧ ∃ q, w' = w.drewN q := by
  have := equal_bools w S S' v v' xs ys h h'; rw [decide_eq_true e] at this; exact this
theorem equal_bools_f {w : World} {S S' : Nat → Prop} {v v' : Value} {xs ys : List Bool} (h : Row w S 1 v xs.length (xs.map .bool)) (h' : Row w S' 1 v' ys.length (ys.map .bool)) (e : ¬ xs = ys) :
    Calls Try.prog 38 #[v, v'] w fun e w' => e = .returned (.bool false) ∧ ∃ q, w' = w.drewN q := by
  have := equal_bools w S S' v v' xs ys h h'; rw [decide_eq_false e] at this; exact this
theorem SameOn.drewN {S : Nat → Prop} {a b : World} (h : SameOn S a b) (q : Nat) : SameOn S a (b.drewN q) := h
theorem Old.drewN {S : Nat → Prop} {w : World} (h : Old S w) (q : Nat) : Old S (w.drewN q) := h
theorem Old.alloc {S : Nat → Prop} {w : World} (h : Old S w) (o : Obj) : Old S (w.alloc o) := fun b hb => Nat.lt_of_lt_of_le (h b hb) (by simp)

theorem Row.al {w : World} {S : Nat → Prop} {size n : Nat} {v : Value} {xs : List Value} (h : Row w S size v n xs) (hS : Old S w) (o : Obj) : Row (w.alloc o) S size v n xs := h.keep ((SameOn.refl _ _).alloc hS _)
theorem RowT.al {w : World} {S : Nat → Prop} {v : Value} {ts : List T} (h : RowT w S v ts) (hS : Old S w) (o : Obj) : RowT (w.alloc o) S v ts := h.keep ((SameOn.refl _ _).alloc hS _) (fun _ h => h)
theorem Row.dr {w : World} {S : Nat → Prop} {size n : Nat} {v : Value} {xs : List Value} (h : Row w S size v n xs) (q : Nat) : Row (w.drewN q) S size v n xs := h
theorem RowT.dr {w : World} {S : Nat → Prop} {v : Value} {ts : List T} (h : RowT w S v ts) (q : Nat) : RowT (w.drewN q) S v ts := h.keep (SameOn.refl _ _) (fun _ h => h)

set_option maxHeartbeats 2000000 in
theorem ident_any (N : Nat) (ih : ∀ (xs ys : List T) (v v' : Value) (w : World) (S S' : Nat → Prop), T.szL xs < N → RowT w S v xs → RowT w S' v' ys → Old S w → Old S' w →
      Calls Try.prog 40 #[v, v', .func (.func 14) #[] #[]] w fun e w' => e = .returned (.bool (identL xs ys)) ∧ Below w.heap.size w w') :
    ∀ (a b : T) (cs ds : List Value) (w : World) (S S' : Nat → Prop), a.sz < N + 1 → TyR w S a cs → TyR w S' b ds → Old S w → Old S' w →
      Calls Try.prog 14 #[.agg cs.toArray, .agg ds.toArray] w fun e w' => e = .returned (.bool (ident a b)) ∧ Below w.heap.size w w' := by
  intro a b cs ds w S S' hN hr hr' hS hS'
  obtain ⟨A1, c1, A2, c2, A3, c3, rfl, r1, r2, r3⟩ := hr.forms
  obtain ⟨A1', c1', A2', c2', A3', c3', rfl, r1', r2', r3'⟩ := hr'.forms
  clear hr hr'
  obtain ⟨k, nm, n, f, ns, ms, ks⟩ := a
  obtain ⟨k', nm', n', f', ns', ms', ks'⟩ := b
  simp only [T.kd, T.nm, T.n, T.fl, T.ns, T.ms, T.ks] at *
  have HS := Lib.hid hS
  have HS' := Lib.hid hS'
  have R1 := Lib.hid r1
  have R2 := Lib.hid r2
  have R3 := Lib.hid r3
  have R1' := Lib.hid r1'
  have R2' := Lib.hid r2'
  have R3' := Lib.hid r3'
  have HSZ := Lib.hid hN
  have IH := Lib.hid ih
  clear hS hS' r1 r2 r3 r1' r2' r3' hN ih
  by_cases hk : k = k'
  case neg =>
    have hfin : ident (.mk k nm n f ns ms ks) (.mk k' nm' n' f' ns' ms' ks') = false := by rw [ident, decide_eq_false hk, Bool.false_and]
    have HF := Lib.hid hfin
    have hb : (k != k') = true := by simpa using hk
    clear hfin hk
    go_enter Try.func14, Try.ntmps14
    go_wp2_with fail
    go_ret
    exact ⟨by rw [HF.out]; rfl, ((Below.refl _ _).alloc (Nat.le_refl _) _).alloc (by simp) _⟩
  subst hk
  by_cases hnm : nm = nm'
  case neg =>
    have hfin : ident (.mk k nm n f ns ms ks) (.mk k nm' n' f' ns' ms' ks') = false := by rw [ident, decide_eq_false hnm, Bool.false_and, Bool.and_false]
    have HF := Lib.hid hfin
    have hb : (nm.toList == nm'.toList) = false := by rw [bytes_eq]; simpa using hnm
    clear hfin hnm
    go_enter Try.func14, Try.ntmps14
    go_wp2_with fail
    go_ret
    exact ⟨by rw [HF.out]; rfl, ((Below.refl _ _).alloc (Nat.le_refl _) _).alloc (by simp) _⟩
  subst hnm
  by_cases hn : n = n'
  case neg =>
    have hfin : ident (.mk k nm n f ns ms ks) (.mk k nm n' f' ns' ms' ks') = false := by rw [ident, decide_eq_false hn, Bool.false_and, Bool.and_false, Bool.and_false]
    have HF := Lib.hid hfin
    have hb : (n != n') = true := by simpa using hn
    clear hfin hn
    go_enter Try.func14, Try.ntmps14
    go_wp2_with fail
    go_ret
    exact ⟨by rw [HF.out]; rfl, ((Below.refl _ _).alloc (Nat.le_refl _) _).alloc (by simp) _⟩
  subst hn
  by_cases hk9 : k = 9
  case pos =>
    have hfin : ident (.mk k nm n f ns ms ks) (.mk k nm n f' ns' ms' ks') = true := by rw [ident]; simp [hk9]
    have HF := Lib.hid hfin
    subst hk9
    clear hfin
    go_enter Try.func14, Try.ntmps14
    go_wp2_with fail
    go_ret
    exact ⟨by rw [HF.out]; rfl, ((Below.refl _ _).alloc (Nat.le_refl _) _).alloc (by simp) _⟩
  have hb9 : (k == 9) = false := by simpa using hk9
  have hid : ident (.mk k nm n f ns ms ks) (.mk k nm n f' ns' ms' ks') = (decide (f = f') && (decide (ns = ns') && (decide (ms = ms') && identL ks ks'))) := by rw [ident]; simp [hk9]
  clear hk9
  by_cases hf : f = f'
  case neg =>
    rw [decide_eq_false hf, Bool.false_and] at hid
    have HF := Lib.hid hid
    have hb : (f == f') = false := by simpa using hf
    clear hid hf
    go_enter Try.func14, Try.ntmps14
    go_wp2_with fail
    go_ret
    exact ⟨by rw [HF.out]; rfl, ((Below.refl _ _).alloc (Nat.le_refl _) _).alloc (by simp) _⟩
  subst hf
  rw [decide_eq_true rfl, Bool.true_and] at hid
  by_cases hns : ns = ns'
  case neg =>
    rw [decide_eq_false hns, Bool.false_and] at hid
    have HF := Lib.hid hid
    have HNS := Lib.hid hns
    clear hid hns
    go_enter Try.func14, Try.ntmps14
    go_wp2_with fail
    refine (equal_strs_f ((R1.out.al HS.out _).al (HS.out.alloc _) _) ((R1'.out.al HS'.out _).al (HS'.out.alloc _) _) HNS.out).mono ?_
    rintro e w1 ⟨rfl, q, rfl⟩
    go_wp2_with fail
    go_ret
    exact ⟨by rw [HF.out]; rfl, below_drewN (((Below.refl _ _).alloc (Nat.le_refl _) _).alloc (by simp) _) _⟩
  rw [decide_eq_true hns, Bool.true_and] at hid
  have HNS := Lib.hid hns
  clear hns
  by_cases hms : ms = ms'
  case neg =>
    rw [decide_eq_false hms, Bool.false_and] at hid
    have HF := Lib.hid hid
    have HMS := Lib.hid hms
    clear hid hms
    go_enter Try.func14, Try.ntmps14
    go_wp2_with fail
    refine (equal_strs_t ((R1.out.al HS.out _).al (HS.out.alloc _) _) ((R1'.out.al HS'.out _).al (HS'.out.alloc _) _) HNS.out).mono ?_
    rintro e w1 ⟨rfl, q, rfl⟩
    go_wp2_with fail
    refine (equal_bools_f (((R2.out.al HS.out _).al (HS.out.alloc _) _).dr q) (((R2'.out.al HS'.out _).al (HS'.out.alloc _) _).dr q) HMS.out).mono ?_
    rintro e w1 ⟨rfl, q2, rfl⟩
    go_wp2_with fail
    go_ret
    exact ⟨by rw [HF.out]; rfl, below_drewN (((Below.refl _ _).alloc (Nat.le_refl _) _).alloc (by simp) _) _⟩
  rw [decide_eq_true hms, Bool.true_and] at hid
  have HMS := Lib.hid hms
  have HF := Lib.hid hid
  clear hms hid
  go_enter Try.func14, Try.ntmps14
  go_wp2_with fail
  refine (equal_strs_t ((R1.out.al HS.out _).al (HS.out.alloc _) _) ((R1'.out.al HS'.out _).al (HS'.out.alloc _) _) HNS.out).mono ?_
  rintro e w1 ⟨rfl, q, rfl⟩
  go_wp2_with fail
  refine (equal_bools_t (((R2.out.al HS.out _).al (HS.out.alloc _) _).dr q) (((R2'.out.al HS'.out _).al (HS'.out.alloc _) _).dr q) HMS.out).mono ?_
  rintro e w1 ⟨rfl, q2, rfl⟩
  go_wp2_with fail
  refine (IH.out ks ks' _ _ _ S S' (by have := HSZ.out; rw [sz_mk] at this; omega) (((R3.out.al HS.out _).al (HS.out.alloc _) _).dr _) (((R3'.out.al HS'.out _).al (HS'.out.alloc _) _).dr _) ((HS.out.alloc _).alloc _) ((HS'.out.alloc _).alloc _)).mono ?_
  rintro e w3 ⟨rfl, hb3⟩
  have hb : Below w.heap.size w w3 := (below_drewN (((Below.refl _ _).alloc (Nat.le_refl _) _).alloc (by simp) _) _).trans (hb3.mono (by simp; omega))
  clear hb3
  go_wp2_with fail
  go_ret
  exact ⟨by rw [HF.out]; rfl, hb⟩
end Go.Proofs.Ytanhdklaponekaa
