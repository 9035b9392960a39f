/- slices.ContainsFunc over types, whatever the function does. -/
import Derived.Test.YtanhdklaponekaaMtL
namespace Go.Proofs.Ytanhdklaponekaa
open Go Go.RowKit

/-- what came: the first that is so, and the state behind it -/
theorem enters_known (args : Array Value) (w : World) : (callFunc 64 args).run Try.prog w = .ok (.enter 64 args) w := by kernel_rfl
def FirstB (n : Nat) (b : Nat → Bool) (P : Nat → World → Prop) (r : Bool) (w : World) : Prop :=
  (r = true ∧ ∃ k, k < n ∧ (∀ m, m < k → b m = false) ∧ b k = true ∧ P (k + 1) w) ∨ (r = false ∧ (∀ m, m < n → b m = false) ∧ P n w)

set_option maxHeartbeats 1000000 in
set_option maxRecDepth 100000 in
theorem index_g {F : FuncId} (hF : ∀ args w, (callFunc F args).run Try.prog w = .ok (.enter F args) w) {caps : Array Value} {b : Nat → Bool} {P : Nat → World → Prop} {ts : List T} {v : Value} {w : World} {S : Nat → Prop} (h : RowT w S v ts) (h0 : P 0 w) (hP : ∀ j wx, j ≤ ts.length → P j wx → SameOn S w wx)
    (hrun : ∀ j (hj : j < ts.length) wx cs, (∀ m, m < j → b m = false) → P j wx → TyR wx S ts[j] cs → Calls Try.prog F (#[.agg cs.toArray] ++ caps) wx fun e w' => e = .returned (.bool (b j)) ∧ P (j + 1) w') :
    Calls Try.prog 72 #[v, .func (.func F) #[] caps] w fun e w' => ∃ i : Int, e = .returned (.int .i64 i) ∧ FirstB ts.length b P (decide (0 ≤ i)) w' := by
  have hlen : ts.length ≤ 9223372036854775807 := by obtain ⟨_, _, _, h⟩ := h.form; exact h
  obtain ⟨A, cap, rfl, -⟩ := h.form
  have H := Lib.hid h
  have H0 := Lib.hid h0
  have HP := Lib.hid hP
  have HR := Lib.hid hrun
  have HF := Lib.hid hF
  clear h h0 hP hrun hF
  go_enter Try.func72, Try.ntmps72
  go_wp2_with fail
  go_loopg [8] ts.length (fun d i wr => ∃ (j : Nat), d = ts.length - j ∧ j ≤ ts.length ∧ i = .int .i64 j ∧ Hid (∀ m, m < j → b m = false) ∧ Hid (P j wr))
  case atStart => exact ⟨0, by simp, by omega, rfl, (fun m h => absurd h (by omega)), H0.out⟩
  case round =>
    obtain ⟨j, rfl, hj, rfl, HSH, HPJ⟩ := hrel
    have HSX : Hid (SameOn S w wr) := HP.out j wr hj HPJ.out
    by_cases hlt : j < ts.length
    · have hr := H.out.keep HSX.out (fun _ h => h)
      obtain ⟨bb, o, c, B1, d1, B2, d2, B3, d3, hv, hSb, ⟨g0, g1, g2, g3, g4, g5, g6⟩, hkr⟩ := hr.at_ hlt
      cases hv
      have HKR := Lib.hid hkr
      clear hkr hr
      go_wp2_with fail
      rw [HF.out, Oper.upon_enter]
      refine (HR.out j hlt wr [.int .i64 ts[j].kd, .string ts[j].nm, .int .i64 ts[j].n, .bool ts[j].fl, .slice B1 ts[j].ns.length d1, .slice B2 ts[j].ms.length d2, .slice B3 ts[j].ks.length d3] HSH.out HPJ.out HKR.out).mono ?_
      rintro e w1 ⟨rfl, hp1⟩
      have HP1 := Lib.hid hp1
      clear hp1
      cases hf : b j with
      | true =>
        have HFB := Lib.hid hf
        clear hf
        go_wp2_with fail
        go_ret
        exact ⟨j, rfl, .inl ⟨by simp, j, hlt, HSH.out, HFB.out, HP1.out⟩⟩
      | false =>
        have HSN : Hid (∀ k, k < j + 1 → b k = false) := fun k h' => by
          by_cases e : k < j
          · exact HSH.out k e
          · obtain rfl : k = j := by omega
            exact hf
        clear HSH hf
        go_wp2_with fail
        go_roundg (ts.length - (j + 1))
        case measure => omega
        case rel => exact ⟨j + 1, rfl, by omega, by go_num, HSN, HP1⟩
    · obtain rfl : j = ts.length := by omega
      go_wp2_with fail
      go_ret
      exact ⟨-1, rfl, .inr ⟨rfl, HSH.out, HPJ.out⟩⟩

theorem contains_g {F : FuncId} (hF : ∀ args w, (callFunc F args).run Try.prog w = .ok (.enter F args) w) {caps : Array Value} {b : Nat → Bool} {P : Nat → World → Prop} {ts : List T} {v : Value} {w : World} {S : Nat → Prop} (h : RowT w S v ts) (h0 : P 0 w) (hP : ∀ j wx, j ≤ ts.length → P j wx → SameOn S w wx)
    (hrun : ∀ j (hj : j < ts.length) wx cs, (∀ m, m < j → b m = false) → P j wx → TyR wx S ts[j] cs → Calls Try.prog F (#[.agg cs.toArray] ++ caps) wx fun e w' => e = .returned (.bool (b j)) ∧ P (j + 1) w') :
    Calls Try.prog 56 #[v, .func (.func F) #[] caps] w fun e w' => ∃ r : Bool, e = .returned (.bool r) ∧ FirstB ts.length b P r w' := by
  obtain ⟨A, cap, rfl, -⟩ := h.form
  have H := Lib.hid h
  have H0 := Lib.hid h0
  have HP := Lib.hid hP
  have HR := Lib.hid hrun
  have HF := Lib.hid hF
  clear h h0 hP hrun hF
  go_enter Try.func56, Try.ntmps56
  go_wp2_with fail
  refine (index_g (F := F) (caps := caps) (b := b) (P := P) HF.out H.out H0.out HP.out HR.out).mono ?_
  rintro e w1 ⟨i, rfl, hi⟩
  have HI := Lib.hid hi
  clear hi
  go_wp2_with fail
  go_ret
  exact ⟨_, rfl, HI.out⟩
end Go.Proofs.Ytanhdklaponekaa
