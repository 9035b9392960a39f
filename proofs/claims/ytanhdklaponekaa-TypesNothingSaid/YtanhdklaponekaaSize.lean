/- recastalike.TypeSize: the plain function, and that the code computes it. -/
import Derived.Test.YtanhdklaponekaaEqualFunc
namespace Go.Proofs.Ytanhdklaponekaa
open Go Go.RowKit

mutual
def tsize : T → Int → Int
  | .mk _ _ _ _ _ _ ks, most => tsizeL ks 1 most
def tsizeL : List T → Int → Int → Int
  | [], s, _ => s
  | t :: ts, s, most => if s ≤ most then tsizeL ts (s + tsize t (most - s)) most else s
end
mutual
theorem tsize_bd : ∀ (t : T) (most : Int), 0 ≤ most → 1 ≤ tsize t most ∧ tsize t most ≤ most + 1
  | .mk _ _ _ _ _ _ ks, most, h => by rw [tsize]; have := tsizeL_bd ks 1 most (by omega) (by omega); omega
theorem tsizeL_bd : ∀ (ts : List T) (s most : Int), 1 ≤ s → s ≤ most + 1 → s ≤ tsizeL ts s most ∧ tsizeL ts s most ≤ most + 1
  | [], s, most, h, h' => by rw [tsizeL]; omega
  | t :: ts, s, most, h, h' => by
    rw [tsizeL]
    split
    · have h1 := tsize_bd t (most - s) (by omega)
      have h2 := tsizeL_bd ts (s + tsize t (most - s)) most (by omega) (by omega)
      omega
    · omega
end

theorem typeSize_any (N : Nat) : ∀ (t : T) (most : Int) (cs : List Value) (w : World) (S : Nat → Prop), t.sz < N → TyR w S t cs → Old S w → 0 ≤ most → most ≤ 1000000 →
    Calls Try.prog 34 #[.agg cs.toArray, .int .i64 most] w fun e w' => e = .returned (.int .i64 (tsize t most)) ∧ Below w.heap.size w w' := by
  induction N with
  | zero => intro t most cs w S h; exact absurd h (by omega)
  | succ N ih =>
    intro t most cs w S hN hr hS hm hm2
    obtain ⟨A1, c1, A2, c2, A3, cap, rfl, -, -, hkr⟩ := hr.forms
    obtain ⟨k, nm, n, f, ns, ms, ks⟩ := t
    simp only [T.kd, T.nm, T.n, T.fl, T.ns, T.ms, T.ks] at *
    have hlen : ks.length ≤ 9223372036854775807 := by obtain ⟨_, _, _, h⟩ := hkr.form; exact h
    have HKR := Lib.hid hkr
    have HS := Lib.hid hS
    have IH := Lib.hid ih
    have HSZ := Lib.hid hN
    clear hkr ih hS hr hN
    go_enter Try.func34, Try.ntmps34
    go_wp2
    go_loopg [5, 6] ks.length (fun m s i wr => ∃ (j : Nat) (sv : Int), m = ks.length - j ∧ j ≤ ks.length ∧ i = .int .i64 j ∧ s = .int .i64 sv ∧ 1 ≤ sv ∧ sv ≤ most + 1 ∧ Hid (tsizeL (ks.drop j) sv most = tsizeL ks 1 most) ∧
      Below w.heap.size w wr ∧ w.heap.size + 1 ≤ wr.heap.size ∧ wr.cell? ⟨w.heap.size, 6, none⟩ = some (.slice A3 ks.length cap))
    case atStart => exact ⟨0, 1, by simp, by omega, rfl, rfl, by omega, by omega, by simp [Hid], (Below.refl _ _).alloc (Nat.le_refl _) _, by simp, by go_simp⟩
    case round =>
      obtain ⟨j, sv, rfl, hj, rfl, rfl, hs1, hs2, hinv, hb, hz, hc6⟩ := hrel
      by_cases hlt : j < ks.length
      · by_cases hle : sv ≤ most
        · have hr := HKR.out.keep (SameOn.of_below hb HS.out) (fun _ h => h)
          obtain ⟨b, o, c, E1, e1, E2, e2, E3, e3, hv, hSb, ⟨g0, g1, g2, g3, g4, g5, g6⟩, hkr⟩ := hr.at_ hlt
          cases hv
          have hbd := tsize_bd ks[j] (most - sv) (by omega)
          have hinv2 : Hid (tsizeL (ks.drop (j + 1)) (sv + tsize ks[j] (most - sv)) most = tsizeL ks 1 most) := by
            have h := hinv.out; rw [drop_at ks j hlt, tsizeL, if_pos hle] at h; exact h
          have HKJ := Lib.hid hkr
          clear hkr hinv hr
          go_wp2_with fail
          refine (IH.out ks[j] (most - sv) [.int .i64 ks[j].kd, .string ks[j].nm, .int .i64 ks[j].n, .bool ks[j].fl, .slice E1 ks[j].ns.length e1, .slice E2 ks[j].ms.length e2, .slice E3 ks[j].ks.length e3] _ S
            (by have := HSZ.out; rw [sz_mk] at this; have := szL_mem hlt; omega) HKJ.out (HS.out.below hb) (by omega) (by omega)).mono ?_
          rintro e w1 ⟨rfl, hbw⟩
          have hz1 := hbw.size
          have hb1' : Below w.heap.size w w1 := hb.trans (hbw.mono (by omega))
          have hc6' : w1.cell? ⟨w.heap.size, 6, none⟩ = some (.slice (some ⟨b, o, none⟩) ks.length cap) := (cell_below hbw (by omega)).trans hc6
          go_wp2_with fail
          go_roundg (ks.length - (j + 1))
          case measure => omega
          case rel => exact ⟨j + 1, _, rfl, by omega, by go_num, rfl, by omega, by omega, hinv2, hb1', by omega, hc6'⟩
        · have hfin : tsizeL ks 1 most = sv := by
            have h := hinv.out; rw [drop_at ks j hlt, tsizeL, if_neg hle] at h; exact h.symm
          have HF := Lib.hid hfin
          have hgt : most < sv := by omega
          clear hfin hinv hle
          go_wp2_with fail
          go_ret
          exact ⟨by rw [tsize, HF.out]; rfl, hb⟩
      · have hfin : tsizeL ks 1 most = sv := by
          have h := hinv.out; rw [drop_end ks j (by omega), tsizeL] at h; exact h.symm
        have HF := Lib.hid hfin
        have hge : ks.length ≤ j := by omega
        clear hfin hinv hlt
        go_wp2_with fail
        go_ret
        exact ⟨by rw [tsize, HF.out]; rfl, hb⟩
theorem typeSize_calls {t : T} {most : Int} {cs : List Value} {w : World} {S : Nat → Prop} (h : TyR w S t cs) (hS : Old S w) (h0 : 0 ≤ most) (h1 : most ≤ 1000000) :
    Calls Try.prog 34 #[.agg cs.toArray, .int .i64 most] w fun e w' => e = .returned (.int .i64 (tsize t most)) ∧ Below w.heap.size w w' :=
  typeSize_any (t.sz + 1) t most cs w S (Nat.lt_succ_self _) h hS h0 h1
end Go.Proofs.Ytanhdklaponekaa
