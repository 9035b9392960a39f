/- types.Subst, whatever the type: what it computes. -/
import Derived.Test.YtanhdklaponekaaSubstR
namespace Go.Proofs.Ytanhdklaponekaa
open Go Go.RowKit

theorem subst_any (us : List T) (va : Value) (hou : T.okL us) (N : Nat) : ∀ (t : T) (cs : List Value) (w : World) (S S' : Nat → Prop), t.sz < N → t.ok → TyR w S t cs → RowT w S' va us → Old S w → Old S' w →
    Calls Try.prog 15 #[.agg cs.toArray, va] w (TRes w (subst us t)) := by
  induction N with
  | zero => intro t cs w S S' h; exact absurd h (by omega)
  | succ N ih =>
    rintro ⟨k, nm, n, f, ns, ms, ks⟩ cs w S S' hN hok hr ha hS hS'
    by_cases hc : k = 9 ∧ 0 ≤ n ∧ n < us.length
    · obtain ⟨rfl, h0, h1⟩ := hc
      obtain ⟨m, rfl⟩ := Int.eq_ofNat_of_zero_le h0
      have hm : m < us.length := by omega
      have e : subst us (.mk 9 nm m f ns ms ks) = us[m] := by
        rw [subst, if_pos ⟨rfl, h0, h1⟩, Int.toNat_natCast, List.getElem?_eq_getElem hm, Option.getD_some]
      rw [e]
      exact subst_param hm hr ha hou hS'
    · have e : subst us (.mk k nm n f ns ms ks) = .mk k nm n f ns ms (substL us ks) := by rw [subst, if_neg hc]
      rw [e]
      refine subst_rest N us va hou ih cs w S S' hN hok hr ha hS hS' ?_
      by_cases h9 : k = 9
      · by_cases h0 : 0 ≤ n
        · exact .inr (.inr ⟨by simpa using h9, h0, by have : ¬ n < us.length := fun h => hc ⟨h9, h0, h⟩; omega⟩)
        · exact .inr (.inl ⟨by simpa using h9, by omega⟩)
      · exact .inl (by simpa using h9)
theorem subst_calls {t : T} {us : List T} {cs : List Value} {va : Value} {w : World} {S S' : Nat → Prop} (hok : t.ok) (hou : T.okL us) (h : TyR w S t cs) (ha : RowT w S' va us) (hS : Old S w) (hS' : Old S' w) :
    Calls Try.prog 15 #[.agg cs.toArray, va] w (TRes w (subst us t)) :=
  subst_any us va hou (t.sz + 1) t cs w S S' (Nat.lt_succ_self _) hok h ha hS hS'
theorem rowT_nil (w : World) (S : Nat → Prop) : RowT w S (.slice none 0 0) [] := ⟨[], Row.nil_, by simp [TysR]⟩
mutual
theorem subst_nil : ∀ (t : T), subst [] t = t
  | .mk k nm n f ns ms ks => by
    rw [subst, if_neg (by rintro ⟨_, h, h1⟩; simp at h1; omega), substL_nil]
theorem substL_nil : ∀ (ts : List T), substL [] ts = ts
  | [] => by rw [substL]
  | t :: ts => by rw [substL, subst_nil t, substL_nil ts]
end
end Go.Proofs.Ytanhdklaponekaa
