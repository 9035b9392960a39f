/- unify.Match, whatever the types: what it computes; and the law: where a type matches a parameter's, the parameter's with its arguments is that type. -/
import Derived.Test.YtanhdklaponekaaMatchB
namespace Go.Proofs.Ytanhdklaponekaa
open Go Go.RowKit

theorem match_any (base g cap N : Nat) : ∀ (p q : T) (us : List T) (xs cs ds : List Value) (w : World) (S S' SA : Nat → Prop), p.sz < N → us.length ≤ 1000000000000 → TyR w S p cs → TyR w S' q ds → q.ok → Old S w → Old S' w → Old SA w → ¬ S g → ¬ S' g → ¬ SA g →
      w.ownsRow base 26 7 (.slice (some ⟨g, 0, none⟩) us.length cap) us.length xs → TysR w SA us xs →
      Calls Try.prog 11 #[.agg cs.toArray, .agg ds.toArray, .slice (some ⟨g, 0, none⟩) us.length cap] w (MatchRes base g cap SA w (matchT p q us)) := by
  induction N with
  | zero => intro p q us xs cs ds w S S' SA h; exact absurd h (by omega)
  | succ N ih =>
    rintro ⟨k, nm, n, f, ns, ms, ks⟩ q us xs cs ds w S S' SA hN hlim hp hq hok hS hS' hA hn hn' hnA ho ht
    by_cases hc : k = 9 ∧ 0 ≤ n ∧ n < us.length
    · obtain ⟨rfl, h0, h1⟩ := hc
      obtain ⟨m, rfl⟩ := Int.eq_ofNat_of_zero_le h0
      have hm : m < us.length := by omega
      have e : matchT (.mk 9 nm m f ns ms ks) q us = atParam q us[m] us m := by
        rw [matchT, if_pos ⟨rfl, h0, h1⟩, Int.toNat_natCast, List.getElem?_eq_getElem hm, Option.getD_some]
      rw [e]
      exact match_param hm hlim hp hq hok hS' hA hnA ho ht
    · have e : matchT (.mk k nm n f ns ms ks) q us = if fieldsEq (.mk k nm n f ns ms ks) q then matchL ks q.ks us else (false, us) := by rw [matchT, if_neg hc]
      rw [e]
      refine match_fields N ih hN hlim hp hq hok hS hS' hA hn hn' hnA ho ht ?_
      by_cases h9 : k = 9
      · by_cases h0 : 0 ≤ n
        · exact .inr (.inr ⟨by simpa using h9, h0, by have : ¬ n < us.length := fun h => hc ⟨h9, h0, h⟩; omega⟩)
        · exact .inr (.inl ⟨by simpa using h9, by omega⟩)
      · exact .inl (by simpa using h9)

mutual
theorem ident_refl : ∀ (t : T), ident t t = true
  | .mk k nm n f ns ms ks => by rw [ident, identL_refl ks]; simp
theorem identL_refl : ∀ (ts : List T), identL ts ts = true
  | [] => by rw [identL]
  | t :: ts => by rw [identL, ident_refl t, identL_refl ts]; rfl
end

/-- vs says whatever us says. -/
def Says (us vs : List T) : Prop := us.length = vs.length ∧ ∀ i (h : i < us.length) (h' : i < vs.length), us[i].kd ≠ 0 → vs[i] = us[i]
theorem Says.refl (us : List T) : Says us us := ⟨rfl, fun _ _ _ _ => rfl⟩
theorem Says.trans {us vs ws : List T} (h : Says us vs) (k : Says vs ws) : Says us ws :=
  ⟨h.1.trans k.1, fun i h1 h2 hne => by
    have h3 : i < vs.length := by rw [← h.1]; exact h1
    have e := h.2 i h1 h3 hne
    rw [k.2 i h3 h2 (by rw [e]; exact hne), e]⟩

theorem unk_kd {t : T} (h : unk t = false) : t.kd ≠ 0 := by
  obtain ⟨k, nm, n, f, ns, ms, ks⟩ := t
  rw [unk] at h
  simp only [Bool.or_eq_false_iff, decide_eq_false_iff_not] at h
  exact h.2
theorem unk_ks {t : T} (h : unk t = false) : unkL t.ks = false := by
  obtain ⟨k, nm, n, f, ns, ms, ks⟩ := t
  rw [unk] at h
  simp only [Bool.or_eq_false_iff] at h
  exact h.1

theorem atParam_says {q u : T} {us : List T} {m : Nat} (hm : m < us.length) (hu : us[m] = u) : Says us (atParam q u us m).2 := by
  unfold atParam
  split
  · exact Says.refl _
  · split
    · rename_i hz
      refine ⟨by simp, fun i h1 h2 hne => ?_⟩
      by_cases e : m = i
      · subst e; exact absurd (by rw [hu]; exact hz) hne
      · simp [e]
    · exact Says.refl _
mutual
theorem matchT_says : ∀ (p q : T) (us : List T), Says us (matchT p q us).2
  | .mk k nm n f ns ms ks, q, us => by
    rw [matchT]; split
    · rename_i hc
      obtain ⟨_, h0, h1⟩ := hc
      have hm : n.toNat < us.length := by omega
      exact atParam_says hm (by rw [List.getElem?_eq_getElem hm, Option.getD_some])
    · split
      · exact matchL_says ks q.ks us
      · exact Says.refl _
theorem matchL_says : ∀ (ps xs us : List T), Says us (matchL ps xs us).2
  | p :: ps, a :: xs, us => by
    rw [matchL]; split
    · exact (matchT_says p a us).trans (matchL_says ps xs _)
    · exact matchT_says p a us
  | [], _, us => by simp only [matchL]; exact Says.refl _
  | _ :: _, [], us => by simp only [matchL]; exact Says.refl _
end
mutual
theorem match_back : ∀ (p q : T) (us vs : List T), unk q = false → (matchT p q us).1 = true → Says (matchT p q us).2 vs → ident (subst vs p) q = true
  | .mk k nm n f ns ms ks, q, us, vs, hq, hm, hs => by
    have hl : us.length = vs.length := (matchT_len (.mk k nm n f ns ms ks) q us).symm.trans hs.1
    by_cases hc : k = 9 ∧ 0 ≤ n ∧ n < us.length
    · have hc' : k = 9 ∧ 0 ≤ n ∧ n < vs.length := by rw [← hl]; exact hc
      have hmn : n.toNat < us.length := by omega
      have hmn' : n.toNat < vs.length := by omega
      rw [subst, if_pos hc', List.getElem?_eq_getElem hmn', Option.getD_some]
      rw [matchT, if_pos hc, List.getElem?_eq_getElem hmn, Option.getD_some] at hm hs
      unfold atParam at hm hs
      by_cases ho : oddB q.kd = true
      · rw [if_pos ho] at hm; exact absurd hm (by simp)
      rw [if_neg ho] at hm hs
      by_cases hz : us[n.toNat].kd = 0
      · rw [if_pos hz] at hs
        have e := hs.2 n.toNat (by simpa using hmn) hmn' (by rw [List.getElem_set_self]; exact unk_kd hq)
        rw [List.getElem_set_self] at e
        rw [e]; exact ident_refl q
      · rw [if_neg hz] at hs hm
        have e := hs.2 n.toNat hmn hmn' hz
        rw [e]; exact hm
    · have hc' : ¬ (k = 9 ∧ 0 ≤ n ∧ n < vs.length) := by rw [← hl]; exact hc
      rw [subst, if_neg hc']
      rw [matchT, if_neg hc] at hm hs
      by_cases hf : fieldsEq (.mk k nm n f ns ms ks) q = true
      · rw [if_pos hf] at hm hs
        obtain ⟨k', nm', n', f', ns', ms', ks'⟩ := q
        have hx := match_backL ks ks' us vs (unk_ks hq) hm hs
        have hf' : k = k' ∧ nm = nm' ∧ n = n' ∧ f = f' ∧ ns = ns' ∧ ms = ms' ∧ ks.length = ks'.length := by
          simp only [fieldsEq, Bool.and_eq_true] at hf
          exact ⟨of_decide_eq_true hf.1, of_decide_eq_true hf.2.1, of_decide_eq_true hf.2.2.1, of_decide_eq_true hf.2.2.2.1, of_decide_eq_true hf.2.2.2.2.1, of_decide_eq_true hf.2.2.2.2.2.1, of_decide_eq_true hf.2.2.2.2.2.2⟩
        obtain ⟨rfl, rfl, rfl, rfl, rfl, rfl, hlen⟩ := hf'
        rw [ident, hx hlen]
        simp
      · rw [if_neg hf] at hm; exact absurd hm (by simp)
theorem match_backL : ∀ (ps xs us vs : List T), unkL xs = false → (matchL ps xs us).1 = true → Says (matchL ps xs us).2 vs → ps.length = xs.length → identL (substL vs ps) xs = true
  | p :: ps, a :: xs, us, vs, hq, hm, hs, hl => by
    rw [unkL] at hq
    simp only [Bool.or_eq_false_iff] at hq
    rw [matchL] at hm hs
    by_cases h1 : (matchT p a us).1 = true
    · rw [if_pos h1] at hm hs
      rw [substL, identL, match_back p a us vs hq.1 h1 ((matchL_says ps xs _).trans hs), match_backL ps xs _ vs hq.2 hm hs (by simpa using hl)]
      rfl
    · rw [if_neg h1] at hm; exact absurd hm h1
  | [], [], us, vs, _, _, _, _ => by simp [substL, identL]
  | [], _ :: _, us, vs, _, _, _, hl => by simp at hl
  | _ :: _, [], us, vs, _, _, _, hl => by simp at hl
end
end Go.Proofs.Ytanhdklaponekaa
