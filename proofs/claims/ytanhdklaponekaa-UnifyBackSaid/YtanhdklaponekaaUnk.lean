/- recastlaw11.in, unknown, param; unify.bare, odd: the plain functions, and that the code computes them. -/
import Derived.Test.YtanhdklaponekaaSize
import Derived.Test.YtanhdklaponekaaMake
namespace Go.Proofs.Ytanhdklaponekaa
open Go Go.RowKit

def inSum (most : Int) : List T → Int → Int
  | [], n => n
  | t :: ts, n => if n ≤ most then inSum most ts (n + tsize t most) else n
theorem inSum_bd : ∀ (ts : List T) (n : Int), 0 ≤ n → n ≤ 121 → 0 ≤ inSum 60 ts n ∧ inSum 60 ts n ≤ 121
  | [], n, h, h' => by rw [inSum]; omega
  | t :: ts, n, h, h' => by
    rw [inSum]
    split
    · have h1 := tsize_bd t 60 (by omega)
      exact inSum_bd ts _ (by omega) (by omega)
    · omega

theorem in11_calls {ts : List T} {v : Value} {w : World} {S : Nat → Prop} (h : RowT w S v ts) (hS : Old S w) :
    Calls Try.prog 8 #[v] w fun e w' => e = .returned (.bool (decide (inSum 60 ts 0 ≤ 60))) ∧ Below w.heap.size w w' := by
  obtain ⟨A, cap, rfl, hlen⟩ := h.form
  have HR := Lib.hid h
  have HS := Lib.hid hS
  clear h hS
  go_enter Try.func8, Try.ntmps8
  go_wp2
  go_loopg [3, 4] ts.length (fun m s i wr => ∃ (j : Nat) (sv : Int), m = ts.length - j ∧ j ≤ ts.length ∧ i = .int .i64 j ∧ s = .int .i64 sv ∧ 0 ≤ sv ∧ sv ≤ 121 ∧ Hid (inSum 60 (ts.drop j) sv = inSum 60 ts 0) ∧ Below w.heap.size w wr)
  case atStart => exact ⟨0, 0, by simp, by omega, rfl, rfl, by omega, by omega, by simp [Hid], Below.refl _ _⟩
  case round =>
    obtain ⟨j, sv, rfl, hj, rfl, rfl, hs1, hs2, hinv, hb⟩ := hrel
    have hz := hb.size
    by_cases hlt : j < ts.length
    · by_cases hle : sv ≤ 60
      · have hr := HR.out.keep (SameOn.of_below hb HS.out) (fun _ h => h)
        obtain ⟨b, o, c, E1, e1, E2, e2, E3, e3, hv, hSb, ⟨g0, g1, g2, g3, g4, g5, g6⟩, hkr⟩ := hr.at_ hlt
        cases hv
        have hbd := tsize_bd ts[j] 60 (by omega)
        have hinv2 : Hid (inSum 60 (ts.drop (j + 1)) (sv + tsize ts[j] 60) = inSum 60 ts 0) := by
          have h := hinv.out; rw [drop_at ts j hlt, inSum, if_pos hle] at h; exact h
        have HKJ := Lib.hid hkr
        clear hkr hinv hr
        go_wp2_with fail
        refine (typeSize_calls (t := ts[j]) (S := S) HKJ.out (HS.out.below hb) (by omega) (by omega)).mono ?_
        rintro e w1 ⟨rfl, hbw⟩
        have hb1' : Below w.heap.size w w1 := hb.trans (hbw.mono (by omega))
        clear hbw
        go_wp2_with fail
        go_roundg (ts.length - (j + 1))
        case measure => omega
        case rel => exact ⟨j + 1, _, rfl, by omega, by go_num, rfl, by omega, by omega, hinv2, hb1'⟩
      · have hfin : inSum 60 ts 0 = sv := by
          have h := hinv.out; rw [drop_at ts j hlt, inSum, if_neg hle] at h; exact h.symm
        have HF := Lib.hid hfin
        have hgt : 60 < sv := by omega
        clear hfin hinv hle
        go_wp2_with fail
        go_ret
        exact ⟨by rw [HF.out]; simp, hb⟩
    · have hfin : inSum 60 ts 0 = sv := by
        have h := hinv.out; rw [drop_end ts j (by omega), inSum] at h; exact h.symm
      have HF := Lib.hid hfin
      have hge : ts.length ≤ j := by omega
      clear hfin hinv hlt
      go_wp2_with fail
      go_ret
      exact ⟨by rw [HF.out]; rfl, hb⟩

mutual
def unk : T → Bool
  | .mk k _ _ _ _ _ ks => unkL ks || decide (k = 0)
def unkL : List T → Bool
  | [] => false
  | t :: ts => unk t || unkL ts
end

theorem unk_any (N : Nat) : ∀ (t : T) (cs : List Value) (w : World) (S : Nat → Prop), t.sz < N → TyR w S t cs → Old S w →
    Calls Try.prog 9 #[.agg cs.toArray] w fun e w' => e = .returned (.bool (unk t)) ∧ Below w.heap.size w w' := by
  induction N with
  | zero => intro t cs w S h; exact absurd h (by omega)
  | succ N ih =>
    intro t cs w S hN hr hS
    obtain ⟨A1, c1, A2, c2, A3, cap, rfl, -, -, hkr⟩ := hr.forms
    obtain ⟨k, nm, n, f, ns, ms, ks⟩ := t
    simp only [T.kd, T.nm, T.n, T.fl, T.ns, T.ms, T.ks] at *
    have hlen : ks.length ≤ 9223372036854775807 := by obtain ⟨_, _, _, h⟩ := hkr.form; exact h
    have HKR := Lib.hid hkr
    have HS := Lib.hid hS
    have IH := Lib.hid ih
    have HSZ := Lib.hid hN
    clear hkr ih hS hr hN
    go_enter Try.func9, Try.ntmps9
    go_wp2
    go_loopg [3] ks.length (fun m i wr => ∃ (j : Nat), m = ks.length - j ∧ j ≤ ks.length ∧ i = .int .i64 j ∧ Hid (unkL (ks.drop j) = unkL ks) ∧
      Below w.heap.size w wr ∧ w.heap.size + 1 ≤ wr.heap.size ∧ wr.cell? ⟨w.heap.size, 6, none⟩ = some (.slice A3 ks.length cap) ∧ wr.cell? ⟨w.heap.size, 0, none⟩ = some (.int .i64 k))
    case atStart => exact ⟨0, by simp, by omega, rfl, by simp [Hid], (Below.refl _ _).alloc (Nat.le_refl _) _, by simp, by go_simp, by go_simp⟩
    case round =>
      obtain ⟨j, rfl, hj, rfl, hinv, hb, hz, hc6, hc0⟩ := hrel
      by_cases hlt : j < ks.length
      · have hr := HKR.out.keep (SameOn.of_below hb HS.out) (fun _ h => h)
        obtain ⟨b, o, c, E1, e1, E2, e2, E3, e3, hv, hSb, ⟨g0, g1, g2, g3, g4, g5, g6⟩, hkr⟩ := hr.at_ hlt
        cases hv
        have hinv1 : (unk ks[j] || unkL (ks.drop (j + 1))) = unkL ks := by
          have h := hinv.out; rw [drop_at ks j hlt, unkL] at h; exact h
        have HI := Lib.hid hinv1
        have HKJ := Lib.hid hkr
        clear hkr hinv hr hinv1
        go_wp2_with fail
        refine (IH.out ks[j] [.int .i64 ks[j].kd, .string ks[j].nm, .int .i64 ks[j].n, .bool ks[j].fl, .slice E1 ks[j].ns.length e1, .slice E2 ks[j].ms.length e2, .slice E3 ks[j].ks.length e3] _ S
          (by have := HSZ.out; rw [sz_mk] at this; have := szL_mem hlt; omega) HKJ.out (HS.out.below hb)).mono ?_
        rintro e w1 ⟨rfl, hbw⟩
        have hz1 := hbw.size
        have hb1' : Below w.heap.size w w1 := hb.trans (hbw.mono (by omega))
        have hc6' : w1.cell? ⟨w.heap.size, 6, none⟩ = some (.slice (some ⟨b, o, none⟩) ks.length cap) := (cell_below hbw (by omega)).trans hc6
        have hc0' : w1.cell? ⟨w.heap.size, 0, none⟩ = some (.int .i64 k) := (cell_below hbw (by omega)).trans hc0
        clear hbw
        cases hu : unk ks[j]
        · have hinv2 : Hid (unkL (ks.drop (j + 1)) = unkL ks) := by have h := HI.out; rw [hu, Bool.false_or] at h; exact h
          clear hu
          go_wp2_with fail
          go_roundg (ks.length - (j + 1))
          case measure => omega
          case rel => exact ⟨j + 1, rfl, by omega, by go_num, hinv2, hb1', by omega, hc6', hc0'⟩
        · have hfin : unk (.mk k nm n f ns ms ks) = true := by rw [unk, ← HI.out, hu]; rfl
          have HF := Lib.hid hfin
          clear hu hfin
          go_wp2_with fail
          go_ret
          exact ⟨by rw [HF.out]; rfl, hb1'⟩
      · have hfin : unk (.mk k nm n f ns ms ks) = decide (k = 0) := by
          have h := hinv.out; rw [drop_end ks j (by omega), unkL] at h; rw [unk, ← h, Bool.false_or]
        have HF := Lib.hid hfin
        have hge : ks.length ≤ j := by omega
        clear hfin hinv hlt
        go_wp2_with fail
        go_ret
        exact ⟨by rw [HF.out]; rfl, hb⟩
theorem unk_calls {t : T} {cs : List Value} {w : World} {S : Nat → Prop} (h : TyR w S t cs) (hS : Old S w) :
    Calls Try.prog 9 #[.agg cs.toArray] w fun e w' => e = .returned (.bool (unk t)) ∧ Below w.heap.size w w' :=
  unk_any (t.sz + 1) t cs w S (Nat.lt_succ_self _) h hS
end Go.Proofs.Ytanhdklaponekaa
