/- unify.bare, unify.odd, recastlaw11.param. -/
import Derived.Test.YtanhdklaponekaaUnk
namespace Go.Proofs.Ytanhdklaponekaa
open Go Go.RowKit

def bareB (k : Int) : Bool := decide (k = 4) || (decide (k = 5) || decide (k = 6))
def oddB (k : Int) : Bool := bareB k || (decide (k = 7) || decide (k = 17))

theorem bare_calls {t : T} {cs : List Value} {w : World} {S : Nat → Prop} (h : TyR w S t cs) :
    Calls Try.prog 69 #[.agg cs.toArray] w fun e w' => e = .returned (.bool (bareB t.kd)) ∧ Below w.heap.size w w' := by
  obtain ⟨A1, c1, A2, c2, A3, c3, rfl, -⟩ := h.forms
  generalize t.kd = k
  clear h
  by_cases h4 : k = 4
  · subst h4
    go_enter Try.func69, Try.ntmps69
    go_wp2_with fail
    go_ret
    exact ⟨rfl, (Below.refl _ _).alloc (Nat.le_refl _) _⟩
  by_cases h5 : k = 5
  · subst h5
    go_enter Try.func69, Try.ntmps69
    go_wp2_with fail
    go_ret
    exact ⟨rfl, (Below.refl _ _).alloc (Nat.le_refl _) _⟩
  by_cases h6 : k = 6
  · subst h6
    go_enter Try.func69, Try.ntmps69
    go_wp2_with fail
    go_ret
    exact ⟨rfl, (Below.refl _ _).alloc (Nat.le_refl _) _⟩
  have hfin : bareB k = false := by simp [bareB, h4, h5, h6]
  have b4 : (k == 4) = false := by simpa using h4
  have b5 : (k == 5) = false := by simpa using h5
  have b6 : (k == 6) = false := by simpa using h6
  have HF := Lib.hid hfin
  clear hfin h4 h5 h6
  go_enter Try.func69, Try.ntmps69
  go_wp2_with fail
  go_ret
  exact ⟨by rw [HF.out]; rfl, (Below.refl _ _).alloc (Nat.le_refl _) _⟩

theorem odd_calls {t : T} {cs : List Value} {w : World} {S : Nat → Prop} (h : TyR w S t cs) (hS : Old S w) :
    Calls Try.prog 35 #[.agg cs.toArray] w fun e w' => e = .returned (.bool (oddB t.kd)) ∧ Below w.heap.size w w' := by
  obtain ⟨A1, c1, A2, c2, A3, c3, rfl, -⟩ := h.forms
  have H := Lib.hid h
  have HS := Lib.hid hS
  clear h hS
  have key : ∀ (b : Bool), bareB t.kd = b → (b = false → (t.kd == 7) = true ∨ ((t.kd == 7) = false ∧ (t.kd == 17) = true) ∨ ((t.kd == 7) = false ∧ (t.kd == 17) = false)) := by
    intro b _ _
    by_cases h7 : t.kd = 7
    · exact .inl (by simpa using h7)
    · by_cases h17 : t.kd = 17
      · exact .inr (.inl ⟨by simpa using h7, by simpa using h17⟩)
      · exact .inr (.inr ⟨by simpa using h7, by simpa using h17⟩)
  have hod : oddB t.kd = (bareB t.kd || ((t.kd == 7) || (t.kd == 17))) := rfl
  cases hb : bareB t.kd
  · rw [hb, Bool.false_or] at hod
    have HB := Lib.hid hb
    have HOD := Lib.hid hod
    rcases key false hb rfl with h7 | ⟨h7, h17⟩ | ⟨h7, h17⟩
    all_goals
      clear key hb hod
      go_enter Try.func35, Try.ntmps35
      go_wp2_with fail
      refine (bare_calls (t := t) (S := S) (H.out.al HS.out _)).mono ?_
      rintro e w1 ⟨rfl, hb1⟩
      rw [HB.out]
      have hbw := ((Below.refl _ _).alloc (Nat.le_refl w.heap.size) (.cells #[.int .i64 t.kd, .string t.nm, .int .i64 t.n, .bool t.fl, .slice A1 t.ns.length c1, .slice A2 t.ms.length c2, .slice A3 t.ks.length c3] 26)).trans (hb1.mono (by simp))
      obtain ⟨g0, g1, g2, g3, g4, g5, g6, gf⟩ := ((Blk.new w 26 #[.int .i64 t.kd, .string t.nm, .int .i64 t.n, .bool t.fl, .slice A1 t.ns.length c1, .slice A2 t.ms.length c2, .slice A3 t.ks.length c3]).below hb1 (by simp)).cells7
      clear hb1
      go_wp2_with fail
      go_ret
      exact ⟨by rw [HOD.out]; simp [*], hbw⟩
  · rw [hb, Bool.true_or] at hod
    have HB := Lib.hid hb
    have HOD := Lib.hid hod
    clear key hb hod
    go_enter Try.func35, Try.ntmps35
    go_wp2_with fail
    refine (bare_calls (t := t) (S := S) (H.out.al HS.out _)).mono ?_
    rintro e w1 ⟨rfl, hb1⟩
    rw [HB.out]
    have hbw := ((Below.refl _ _).alloc (Nat.le_refl w.heap.size) (.cells #[.int .i64 t.kd, .string t.nm, .int .i64 t.n, .bool t.fl, .slice A1 t.ns.length c1, .slice A2 t.ms.length c2, .slice A3 t.ks.length c3] 26)).trans (hb1.mono (by simp))
    clear hb1
    go_wp2_with fail
    go_ret
    exact ⟨by rw [HOD.out]; rfl, hbw⟩

theorem conv1 (k : Int) (n : Nat) (hk : k = n) (hn : n < 256) (X : World) (b : Nat) (hb : X.heap.size = b) :
    (convert 66 9 (.slice (some ⟨b, 0, none⟩) 1 1)).run Try.prog (X.alloc (.cells #[.int .u8 k] 5)) = .ok (.string ⟨#[UInt8.ofNat n]⟩) (X.alloc (.cells #[.int .u8 k] 5)) := by
  subst hb hk
  refine run_convert_bytes_back _ _ _ 5 ⟨X.heap.size, 0, none⟩ 1 [UInt8.ofNat n] Try.underlying66 Try.underlying5 Try.underlying9 (fun j hj => ?_)
  have : j = 0 := by simpa using hj
  subst this
  have h := (Blk.new X 5 #[.int .u8 n]).cell 0
  simp only [Addr.add, if_true]
  rw [h]
  simp [Nat.mod_eq_of_lt hn]

def paramT (n : Nat) (c : T) : T := .mk 9 ⟨#[UInt8.ofNat (65 + n)]⟩ n false [] [] [c]
theorem Blk.new_at (w : World) (t : TypeId) (cs : Array Value) {g : Nat} (hg : w.heap.size = g) : Blk (w.alloc (.cells cs t)) g t cs := hg ▸ Blk.new w t cs
theorem param_close {n : Nat} {nm : ByteArray} {f : Bool} {c : T} {A1 A2 A3 : Option Addr} {c1 c2 c3 g : Nat} {k : Int} {w W : World} {S : Nat → Prop} (h : TyR w S c [.int .i64 c.kd, .string c.nm, .int .i64 c.n, .bool c.fl, .slice A1 c.ns.length c1, .slice A2 c.ms.length c2, .slice A3 c.ks.length c3])
    (hS : Old S w) (hs : SameOn S w W) (hg : Blk W g 26 #[.int .i64 c.kd, .string c.nm, .int .i64 c.n, .bool c.fl, .slice A1 c.ns.length c1, .slice A2 c.ms.length c2, .slice A3 c.ks.length c3]) (hgw : w.heap.size ≤ g) :
    TyR W (fun b => S b ∨ New w W b) (.mk k nm n f [] [] [c]) [.int .i64 k, .string nm, .int .i64 n, .bool f, .slice none 0 0, .slice none 0 0, .slice (some ⟨g, 0, none⟩) 1 1] := by
  have _ := hS
  simp only [TyR]
  refine ⟨_, _, _, _, rfl, Row.nil_, Row.nil_, ⟨by simp, _, _, rfl, Nat.le_refl _, by unfold maxLen; omega, (fun e => by cases e), fun _ => ⟨g, 0, rfl, .inr ⟨hgw, hg.lt⟩, fun j u hu => ?_⟩⟩, TysR.one (h.keep hs (fun b hb => .inl hb))⟩
  rw [Nat.zero_add, hg.cell j]
  simpa using hu

set_option maxRecDepth 100000 in
set_option maxHeartbeats 2000000 in
theorem param_calls {n : Nat} {c : T} {cs : List Value} {w : World} {S : Nat → Prop} (hn : n ≤ 6) (h : TyR w S c cs) (hS : Old S w) :
    Calls Try.prog 12 #[.int .i64 n, .agg cs.toArray] w fun e w' => ∃ ds : List Value, e = .returned (.agg ds.toArray) ∧ TyR w' (fun b => S b ∨ New w w' b) (paramT n c) ds ∧ Below w.heap.size w w' := by
  obtain ⟨A1, c1, A2, c2, A3, c3, rfl, -⟩ := h.forms
  have H := Lib.hid h
  have HS := Lib.hid hS
  clear h hS
  rcases (by omega : n = 0 ∨ n = 1 ∨ n = 2 ∨ n = 3 ∨ n = 4 ∨ n = 5 ∨ n = 6) with rfl | rfl | rfl | rfl | rfl | rfl | rfl
  all_goals
    clear hn
    have hcv := conv1 65 65 rfl (by omega)
    have hcv1 := conv1 66 66 rfl (by omega)
    have hcv2 := conv1 67 67 rfl (by omega)
    have hcv3 := conv1 68 68 rfl (by omega)
    have hcv4 := conv1 69 69 rfl (by omega)
    have hcv5 := conv1 70 70 rfl (by omega)
    have hcv6 := conv1 71 71 rfl (by omega)
    go_enter Try.func12, Try.ntmps12
    go_wp2_with fail
    refine bodyPost_ret (by simp [results, Try.results12, go_sem]; rfl) rfl ⟨_, rfl, ?_, ?_⟩
    · refine param_close H.out HS.out ?_ ?_ ?_
      · repeat (refine SameOn.alloc ?_ (fun b hb => by have := HS.out b hb; simp; omega) _)
        exact SameOn.refl _ _
      · exact Blk.new_at _ _ _ (by simp)
      · omega
    · repeat (refine Below.alloc ?_ (by simp; try omega) _)
      exact Below.refl _ _
end Go.Proofs.Ytanhdklaponekaa
