/- types.kid, types.braced, types.join: walks. -/
import Derived.Test.YtanhdklaponekaaTextP
import Derived.Test.YtanhdklaponekaaOwns
import Derived.Test.YtanhdklaponekaaShelf
namespace Go.Proofs.Ytanhdklaponekaa
open Go Go.RowKit

theorem join_any {l : List ByteArray} {sep : ByteArray} {v : Value} {w : World} {S : Nat → Prop} (h : Row w S 1 v l.length (l.map .string)) (hS : Old S w) (hl : l.length ≤ Lim) (hb : (joinB l sep).size ≤ Lim) :
    Calls Try.prog 70 #[v, .string sep] w fun e w' => e = .returned (.string (joinB l sep)) ∧ Below w.heap.size w w' := by
  obtain ⟨h1, A, cap, rfl, h2, h3, h0, h4⟩ := h
  cases l with
  | nil =>
    refine (Go.Proofs.Try.strings_Join_none A cap sep w).mono ?_
    rintro e w' ⟨rfl, rfl⟩
    exact ⟨rfl, Below.refl _ _⟩
  | cons x r =>
    obtain ⟨b, o, rfl, hSb, hc⟩ := h4 (by simp)
    rw [size_joinB] at hb
    refine (Go.Proofs.Try.strings_Join b o cap (x :: r) sep w (fun j y hj => hc j _ (by rw [List.getElem?_map, hj]; rfl)) (hS b hSb) hl h2 hb).mono ?_
    rintro e w' ⟨rfl, hb⟩
    exact ⟨rfl, hb⟩

theorem zero_cells (w : World) (S : Nat → Prop) : TyR w S T.zero [.int .i64 0, .string ⟨#[]⟩, .int .i64 0, .bool false, .slice none 0 0, .slice none 0 0, .slice none 0 0] := by
  simp only [T.zero, TyR]
  exact ⟨_, _, _, [], rfl, Row.nil_, Row.nil_, Row.nil_, by simp [TysR]⟩

set_option maxHeartbeats 1000000 in
theorem kid_calls {t : T} {cs : List Value} {w : World} {S : Nat → Prop} (h : TyR w S t cs) (hS : Old S w) :
    Calls Try.prog 48 #[.agg cs.toArray, .int .i64 0] w fun e w' => ∃ ds : List Value, e = .returned (.agg ds.toArray) ∧ TyR w' S (t.kid 0) ds ∧ Below w.heap.size w w' := by
  obtain ⟨A1, c1, A2, c2, A3, c3, rfl, -, -, hk⟩ := h.forms
  have HS := Lib.hid hS
  have HK := Lib.hid hk
  clear h hS hk
  by_cases h0 : 0 < t.ks.length
  · obtain ⟨b, o, c, B1, d1, B2, d2, B3, d3, hv, hSb, ⟨g0, g1, g2, g3, g4, g5, g6⟩, hkr⟩ := HK.out.at_ h0
    cases hv
    have HKR := Lib.hid hkr
    have hb := HS.out b hSb
    have hne : ¬t.ks = [] := by intro e; rw [e] at h0; exact absurd h0 (by simp)
    clear hkr
    simp only [Nat.zero_mul, Nat.add_zero] at g0 g1 g2 g3 g4 g5 g6
    go_enter Try.func48, Try.ntmps48
    go_wp2_with fail
    refine bodyPost_ret (v := .agg #[.int .i64 t.ks[0].kd, .string t.ks[0].nm, .int .i64 t.ks[0].n, .bool t.ks[0].fl, .slice B1 t.ks[0].ns.length d1, .slice B2 t.ks[0].ms.length d2, .slice B3 t.ks[0].ks.length d3]) (by simp [results, Try.results48, go_sem]) rfl ?_
    rw [T.kid_at h0]
    exact ⟨_, rfl, HKR.out.keep (((SameOn.refl _ _).alloc HS.out _).alloc ((HS.out.below ((Below.refl _ _).alloc (Nat.le_refl _) _))) _) (fun _ h => h), ((Below.refl _ _).alloc (Nat.le_refl _) _).alloc (by simp) _⟩
  · obtain ⟨A, cap, hA, hlen⟩ := HK.out.form
    have hz : t.ks.length = 0 := by omega
    rw [hz] at hA ⊢
    go_enter Try.func48, Try.ntmps48
    go_wp2_with fail
    refine bodyPost_ret (v := .agg #[.int .i64 0, .string ⟨#[]⟩, .int .i64 0, .bool false, .slice none 0 0, .slice none 0 0, .slice none 0 0]) (by simp [results, Try.results48, go_sem]) rfl ?_
    rw [T.kid_out (by omega)]
    exact ⟨_, rfl, zero_cells _ _, ((Below.refl _ _).alloc (Nat.le_refl _) _).alloc (by simp) _⟩

set_option maxHeartbeats 1000000 in
theorem braced_calls {head : ByteArray} {l : List ByteArray} {v : Value} {w : World} {S : Nat → Prop} (h : Row w S 1 v l.length (l.map .string)) (hS : Old S w) (hl : l.length ≤ Lim) (hb : (bracedF head l).size ≤ Lim) :
    Calls Try.prog 50 #[.string head, v] w fun e w' => e = .returned (.string (bracedF head l)) ∧ Below w.heap.size w w' := by
  obtain ⟨A, cap, rfl, hlen⟩ := h.form
  have HS := Lib.hid hS
  have HR := Lib.hid h
  have HL := Lib.hid hl
  clear h hS hl
  by_cases h0 : l.length = 0
  · have HF : Hid (bracedF head l = head ++ bs [32, 123, 125]) := by unfold Hid bracedF; rw [if_pos h0]
    have hs1 : ¬9223372036854775807 < head.size + 3 := by
      rw [HF.out, size_app, size_bs] at hb
      simp only [List.length_cons, List.length_nil] at hb
      unfold Lim at hb; omega
    clear hb
    rw [h0] at HR ⊢
    go_enter Try.func50, Try.ntmps50
    go_wp2_with fail
    go_ret
    exact ⟨by rw [HF.out]; rfl, Below.refl _ _⟩
  · have hF : bracedF head l = head ++ bs [32, 123, 32] ++ joinB l (bs [59, 32]) ++ bs [32, 125] := by unfold bracedF; rw [if_neg h0]
    rw [hF, size_app, size_app, size_app, size_bs, size_bs] at hb
    simp only [List.length_cons, List.length_nil] at hb
    have hj : (joinB l (bs [59, 32])).size ≤ Lim := by omega
    have hs1 : ¬9223372036854775807 < head.size + 3 := by unfold Lim at hb; omega
    have hs2 : ¬9223372036854775807 < head.size + 3 + (joinB l (bs [59, 32])).size := by unfold Lim at hb; omega
    have hs3 : ¬9223372036854775807 < head.size + 3 + (joinB l (bs [59, 32])).size + 2 := by unfold Lim at hb; omega
    have HF := Lib.hid hF
    have HJ := Lib.hid hj
    have hk : ((l.length : Int) == 0) = false := by simpa using h0
    clear hF hj hb
    go_enter Try.func50, Try.ntmps50
    go_wp2_with fail
    refine (join_any (sep := bs [59, 32]) HR.out HS.out HL.out HJ.out).mono ?_
    rintro e w' ⟨rfl, hb⟩
    have HB := Lib.hid hb
    clear hb
    go_wp2_with fail
    go_ret
    exact ⟨by rw [HF.out]; rfl, HB.out⟩
end Go.Proofs.Ytanhdklaponekaa
