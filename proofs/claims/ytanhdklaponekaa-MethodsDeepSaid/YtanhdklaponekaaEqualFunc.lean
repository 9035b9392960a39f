/- slices.EqualFunc with types.Identical; the two together. -/
import Derived.Test.YtanhdklaponekaaIdent
namespace Go.Proofs.Ytanhdklaponekaa
open Go Go.RowKit

theorem identL_step (xs ys : List T) (j : Nat) (h1 : j < xs.length) (h2 : j < ys.length) : identL (xs.drop j) (ys.drop j) = (ident xs[j] ys[j] && identL (xs.drop (j + 1)) (ys.drop (j + 1))) := by
  rw [drop_at xs j h1, drop_at ys j h2, identL]

theorem TyR.al {w : World} {S : Nat → Prop} {t : T} {cs : List Value} (h : TyR w S t cs) (hS : Old S w) (o : Obj) : TyR (w.alloc o) S t cs := h.keep ((SameOn.refl _ _).alloc hS _) (fun _ h => h)
set_option maxHeartbeats 1000000 in
theorem equalFunc_any (N : Nat) (ih : ∀ (a b : T) (cs ds : List Value) (w : World) (S S' : Nat → Prop), a.sz < N → TyR w S a cs → TyR w S' b ds → Old S w → Old S' w →
      Calls Try.prog 14 #[.agg cs.toArray, .agg ds.toArray] w fun e w' => e = .returned (.bool (ident a b)) ∧ Below w.heap.size w w') :
    ∀ (xs ys : List T) (v v' : Value) (w : World) (S S' : Nat → Prop), T.szL xs < N + 1 → RowT w S v xs → RowT w S' v' ys → Old S w → Old S' w →
      Calls Try.prog 40 #[v, v', .func (.func 14) #[] #[]] w fun e w' => e = .returned (.bool (identL xs ys)) ∧ Below w.heap.size w w' := by
  intro xs ys v v' w S S' hN hr hr' hS hS'
  obtain ⟨A, cap, rfl, hlen⟩ := hr.form
  obtain ⟨A', cap', rfl, hlen'⟩ := hr'.form
  have HS := Lib.hid hS
  have HS' := Lib.hid hS'
  have HR := Lib.hid hr
  have HR' := Lib.hid hr'
  have HSZ := Lib.hid hN
  have IH := Lib.hid ih
  clear hS hS' hr hr' hN ih
  by_cases hl : xs.length = ys.length
  case neg =>
    have hfin := identL_len hl
    have HF := Lib.hid hfin
    have hln : ((xs.length : Int) != (ys.length : Int)) = true := by simp; omega
    clear hfin hl
    go_enter Try.func40, Try.ntmps40
    go_wp2_with fail
    go_ret
    exact ⟨by rw [HF.out]; rfl, Below.refl _ _⟩
  have hln : ((xs.length : Int) != (ys.length : Int)) = false := by rw [hl]; simp
  have HL := Lib.hid hl
  clear hl
  go_enter Try.func40, Try.ntmps40
  go_wp2_with fail
  go_loopg [17] xs.length (fun m i wr => ∃ j : Nat, m = xs.length - j ∧ j ≤ xs.length ∧ i = .int .i64 j ∧ Hid (identL (xs.drop j) (ys.drop j) = identL xs ys) ∧ Below w.heap.size w wr)
  case atStart => exact ⟨0, by simp, by omega, rfl, by simp [Hid], Below.refl _ _⟩
  case round =>
    obtain ⟨j, rfl, hj, rfl, hinv, hb⟩ := hrel
    have hzr := hb.size
    by_cases hlt : j < xs.length
    · have hlt2 : j < ys.length := by rw [← HL.out]; exact hlt
      have hr := HR.out.keep (SameOn.of_below hb HS.out) (fun _ h => h)
      have hr' := HR'.out.keep (SameOn.of_below hb HS'.out) (fun _ h => h)
      obtain ⟨b, o, c, A1, c1, A2, c2, A3, c3, hv, hSb, ⟨g0, g1, g2, g3, g4, g5, g6⟩, hkr⟩ := hr.at_ hlt
      obtain ⟨b', o', c', A1', c1', A2', c2', A3', c3', hv', hSb', ⟨g0', g1', g2', g3', g4', g5', g6'⟩, hkr'⟩ := hr'.at_ hlt2
      cases hv
      cases hv'
      have hob : b' < wr.heap.size := Nat.lt_of_lt_of_le (HS'.out b' hSb') hzr
      have HKR := Lib.hid hkr
      have HKR' := Lib.hid hkr'
      have hstep := (identL_step xs ys j hlt hlt2).symm.trans hinv.out
      have HST := Lib.hid hstep
      clear hkr hkr' hr hr' hSb hSb' hinv hstep
      have hl3 : (j : Int) < (ys.length : Int) := by omega
      go_wp2_with fail
      refine (IH.out xs[j] ys[j] [.int .i64 xs[j].kd, .string xs[j].nm, .int .i64 xs[j].n, .bool xs[j].fl, .slice A1 xs[j].ns.length c1, .slice A2 xs[j].ms.length c2, .slice A3 xs[j].ks.length c3]
        [.int .i64 ys[j].kd, .string ys[j].nm, .int .i64 ys[j].n, .bool ys[j].fl, .slice A1' ys[j].ns.length c1', .slice A2' ys[j].ms.length c2', .slice A3' ys[j].ks.length c3'] _ S S'
        (by have := HSZ.out; have := szL_mem hlt; omega) ((HKR.out.al (HS.out.below hb) _).al ((HS.out.below hb).alloc _) _) ((HKR'.out.al (HS'.out.below hb) _).al ((HS'.out.below hb).alloc _) _) (((HS.out.below hb).alloc _).alloc _) (((HS'.out.below hb).alloc _).alloc _)).mono ?_
      rintro e w1 ⟨rfl, hb1⟩
      have hbn : Below w.heap.size w w1 := ((hb.alloc hzr _).alloc (by simp; omega) _).trans (hb1.mono (by simp; omega))
      clear hb1
      cases hid : ident xs[j] ys[j]
      · have hfin : identL xs ys = false := by rw [← HST.out, hid, Bool.false_and]
        have HF := Lib.hid hfin
        clear hfin hid
        go_wp2_with fail
        go_ret
        exact ⟨by rw [HF.out]; rfl, hbn⟩
      · have hinv2 : Hid (identL (xs.drop (j + 1)) (ys.drop (j + 1)) = identL xs ys) := by
          have h := HST.out; rw [hid, Bool.true_and] at h; exact h
        clear hid
        go_wp2_with fail
        go_roundg (xs.length - (j + 1))
        case measure => omega
        case rel => exact ⟨j + 1, rfl, by omega, by go_num, hinv2, hbn⟩
    · have hfin : identL xs ys = true := by
        have h := hinv.out; rw [drop_end xs j (by omega), drop_end ys j (by rw [← HL.out]; omega), identL] at h; exact h.symm
      have HF := Lib.hid hfin
      have hge : xs.length ≤ j := by omega
      clear hfin hinv hlt
      go_wp2_with fail
      go_ret
      exact ⟨by rw [HF.out]; rfl, hb⟩

theorem ident_both (N : Nat) :
    (∀ (a b : T) (cs ds : List Value) (w : World) (S S' : Nat → Prop), a.sz < N → TyR w S a cs → TyR w S' b ds → Old S w → Old S' w →
      Calls Try.prog 14 #[.agg cs.toArray, .agg ds.toArray] w fun e w' => e = .returned (.bool (ident a b)) ∧ Below w.heap.size w w') ∧
    (∀ (xs ys : List T) (v v' : Value) (w : World) (S S' : Nat → Prop), T.szL xs < N → RowT w S v xs → RowT w S' v' ys → Old S w → Old S' w →
      Calls Try.prog 40 #[v, v', .func (.func 14) #[] #[]] w fun e w' => e = .returned (.bool (identL xs ys)) ∧ Below w.heap.size w w') := by
  induction N with
  | zero => exact ⟨fun a b cs ds w S S' h => absurd h (by omega), fun xs ys v v' w S S' h => absurd h (by omega)⟩
  | succ N ih => exact ⟨ident_any N ih.2, equalFunc_any N ih.1⟩
theorem ident_calls {a b : T} {cs ds : List Value} {w : World} {S S' : Nat → Prop} (h : TyR w S a cs) (h' : TyR w S' b ds) (hS : Old S w) (hS' : Old S' w) :
    Calls Try.prog 14 #[.agg cs.toArray, .agg ds.toArray] w fun e w' => e = .returned (.bool (ident a b)) ∧ Below w.heap.size w w' :=
  (ident_both (a.sz + 1)).1 a b cs ds w S S' (Nat.lt_succ_self _) h h' hS hS'
end Go.Proofs.Ytanhdklaponekaa
