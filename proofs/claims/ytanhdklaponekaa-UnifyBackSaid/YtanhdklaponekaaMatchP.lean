/- unify.Match on data. -/
import Derived.Test.YtanhdklaponekaaOdd
namespace Go.Proofs.Ytanhdklaponekaa
open Go Go.RowKit

section
variable {k n : Int} {nm : ByteArray} {f : Bool} {ns : List ByteArray} {ms : List Bool} {ks : List T}
theorem mk_kd : (T.mk k nm n f ns ms ks).kd = k := rfl
theorem mk_nm : (T.mk k nm n f ns ms ks).nm = nm := rfl
theorem mk_n : (T.mk k nm n f ns ms ks).n = n := rfl
theorem mk_fl : (T.mk k nm n f ns ms ks).fl = f := rfl
theorem mk_ns : (T.mk k nm n f ns ms ks).ns = ns := rfl
theorem mk_ms : (T.mk k nm n f ns ms ks).ms = ms := rfl
theorem mk_ks : (T.mk k nm n f ns ms ks).ks = ks := rfl
end

def fieldsEq (p a : T) : Bool :=
  decide (p.kd = a.kd) && (decide (p.nm = a.nm) && (decide (p.n = a.n) && (decide (p.fl = a.fl) && (decide (p.ns = a.ns) && (decide (p.ms = a.ms) && decide (p.ks.length = a.ks.length))))))
def atParam (a u : T) (us : List T) (m : Nat) : Bool × List T :=
  if oddB a.kd then (false, us) else if u.kd = 0 then (true, us.set m a) else (ident u a, us)
mutual
def matchT : T → T → List T → Bool × List T
  | .mk k nm n f ns ms ks, a, us =>
    if k = 9 ∧ 0 ≤ n ∧ n < us.length then atParam a ((us[n.toNat]?).getD T.zero) us n.toNat
    else if fieldsEq (.mk k nm n f ns ms ks) a then matchL ks a.ks us else (false, us)
def matchL : List T → List T → List T → Bool × List T
  | p :: ps, a :: xs, us => if (matchT p a us).1 then matchL ps xs (matchT p a us).2 else (matchT p a us)
  | [], _, us => (true, us)
  | _ :: _, [], us => (true, us)
end
theorem atParam_len (a u : T) (us : List T) (m : Nat) : (atParam a u us m).2.length = us.length := by
  unfold atParam; split
  · rfl
  · split
    · simp
    · rfl
mutual
theorem matchT_len : ∀ (p a : T) (us : List T), (matchT p a us).2.length = us.length
  | .mk k nm n f ns ms ks, a, us => by
    rw [matchT]; split
    · exact atParam_len _ _ _ _
    · split
      · exact matchL_len ks a.ks us
      · rfl
theorem matchL_len : ∀ (ps xs us : List T), (matchL ps xs us).2.length = us.length
  | p :: ps, a :: xs, us => by
    rw [matchL]; split
    · rw [matchL_len ps xs, matchT_len p a us]
    · exact matchT_len p a us
  | [], _, us => by simp [matchL]
  | _ :: _, [], us => by simp [matchL]
end
theorem matchL_step (ps xs us : List T) (j : Nat) (h1 : j < ps.length) (h2 : j < xs.length) :
    matchL (ps.drop j) (xs.drop j) us = if (matchT ps[j] xs[j] us).1 then matchL (ps.drop (j + 1)) (xs.drop (j + 1)) (matchT ps[j] xs[j] us).2 else matchT ps[j] xs[j] us := by
  rw [drop_at ps j h1, drop_at xs j h2, matchL]

/-- What Match leaves. -/
def MatchRes (base g cap : Nat) (SA : Nat → Prop) (w : World) (r : Bool × List T) (e : Ending) (w' : World) : Prop :=
  e = .returned (.bool r.1) ∧ w.grownBy w' (some g) ∧ ∃ xs', w'.ownsRow base 26 7 (.slice (some ⟨g, 0, none⟩) r.2.length cap) r.2.length xs' ∧ TysR w' (fun b => SA b ∨ New w w' b) r.2 xs'

theorem grown_old {w w' : World} {g : Nat} {S : Nat → Prop} (hg : w.grownBy w' (some g)) (hS : Old S w) (hn : ¬ S g) : SameOn S w w' :=
  SameOn.of_grown hg hS (fun b hb e => hn (by injection e with e; exact e ▸ hb))
theorem Old.grown {w w' : World} {row : Option Nat} {S : Nat → Prop} (h : Old S w) (hg : w.grownBy w' row) : Old S w' := fun b hb => Nat.lt_of_lt_of_le (h b hb) hg.size

/-- Where nothing was written into the list. -/
theorem MatchRes.same {base g cap : Nat} {SA : Nat → Prop} {w w' : World} {us : List T} {xs : List Value} {b : Bool} (ho : w.ownsRow base 26 7 (.slice (some ⟨g, 0, none⟩) us.length cap) us.length xs) (ht : TysR w SA us xs)
    (hA : Old SA w) (hb : Below w.heap.size w w') : MatchRes base g cap SA w (b, us) (.returned (.bool b)) w' :=
  ⟨rfl, grown_of_below hb _, xs, own_below ho hb, ht.keep (SameOn.of_below hb hA) (fun _ h => .inl h)⟩
theorem MatchRes.same' {base g cap : Nat} {SA : Nat → Prop} {w w' : World} {us : List T} {xs : List Value} {r : Bool × List T} {b : Bool} {e : Ending} (hr : r = (b, us)) (he : e = .returned (.bool b)) (ho : w.ownsRow base 26 7 (.slice (some ⟨g, 0, none⟩) us.length cap) us.length xs) (ht : TysR w SA us xs)
    (hA : Old SA w) (hb : Below w.heap.size w w') : MatchRes base g cap SA w r e w' := by
  subst hr he; exact MatchRes.same ho ht hA hb

/-- splitting a row at element m -/
theorem tysR_mid {w : World} {S : Nat → Prop} {us : List T} {xs : List Value} (h : TysR w S us xs) {m : Nat} (hm : m < us.length) : ∃ A1 c1 A2 c2 A3 c3,
    xs = xs.take (m * 7) ++ (.int .i64 us[m].kd :: .string us[m].nm :: .int .i64 us[m].n :: .bool us[m].fl :: .slice A1 us[m].ns.length c1 :: .slice A2 us[m].ms.length c2 :: .slice A3 us[m].ks.length c3 :: xs.drop ((m + 1) * 7)) ∧
    (xs.take (m * 7)).length = m * 7 ∧
    TyR w S us[m] [.int .i64 us[m].kd, .string us[m].nm, .int .i64 us[m].n, .bool us[m].fl, .slice A1 us[m].ns.length c1, .slice A2 us[m].ms.length c2, .slice A3 us[m].ks.length c3] ∧
    TysR w S (us.take m) (xs.take (m * 7)) ∧ TysR w S (us.drop (m + 1)) (xs.drop ((m + 1) * 7)) := by
  have hl := h.len
  have hparts : ∀ (us : List T) (xs : List Value) (m : Nat), TysR w S us xs → m ≤ us.length → TysR w S (us.take m) (xs.take (m * 7)) ∧ TysR w S (us.drop m) (xs.drop (m * 7)) := by
    intro us
    induction us with
    | nil => intro xs m h _; simp only [TysR] at h; subst h; simp [TysR]
    | cons u us ih =>
      intro xs m h hm
      cases m with
      | zero => exact ⟨by simp [TysR], by simpa using h⟩
      | succ m =>
        simp only [TysR] at h
        obtain ⟨c1, c2, rfl, a, b⟩ := h
        have hm' : m ≤ us.length := by simpa using hm
        have hq := ih c2 m b hm'
        have e1 : (c1 ++ c2).take ((m + 1) * 7) = c1 ++ c2.take (m * 7) := by
          rw [List.take_append, List.take_of_length_le (by rw [a.len]; omega), a.len]; congr 2; omega
        have e2 : (c1 ++ c2).drop ((m + 1) * 7) = c2.drop (m * 7) := by
          rw [List.drop_append, List.drop_eq_nil_of_le (by rw [a.len]; omega), a.len, List.nil_append]; congr 1; omega
        rw [e1, e2, List.take_succ_cons, List.drop_succ_cons]
        refine ⟨?_, hq.2⟩
        simp only [TysR]
        exact ⟨c1, _, rfl, a, hq.1⟩
  have h1 := h.at_ m hm
  obtain ⟨A1, c1, A2, c2, A3, c3, e, _⟩ := h1.forms
  rw [e] at h1
  refine ⟨A1, c1, A2, c2, A3, c3, ?_, by rw [List.length_take, hl]; exact Nat.min_eq_left (by omega), h1, (hparts us xs m h (by omega)).1, (hparts us xs (m + 1) h (by omega)).2⟩
  conv => lhs; rw [← List.take_append_drop (m * 7) xs]
  congr 1
  rw [← List.take_append_drop 7 (xs.drop (m * 7)), e, List.drop_drop, show m * 7 + 7 = (m + 1) * 7 by omega]
  rfl
theorem tysR_set {w : World} {S : Nat → Prop} {us : List T} {ys zs cs : List Value} {m : Nat} {a : T} (hm : m < us.length) (h1 : TysR w S (us.take m) ys) (h2 : TyR w S a cs) (h3 : TysR w S (us.drop (m + 1)) zs) :
    TysR w S (us.set m a) ((ys ++ cs) ++ zs) := by
  rw [List.set_eq_take_append_cons_drop, if_pos hm, List.append_assoc]
  refine h1.append ?_
  simp only [TysR]
  exact ⟨cs, zs, rfl, h2, h3⟩
end Go.Proofs.Ytanhdklaponekaa
