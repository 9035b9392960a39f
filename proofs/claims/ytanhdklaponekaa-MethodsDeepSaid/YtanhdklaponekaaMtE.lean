/- recastalike.Ints; how the plain results are computed. -/
import Derived.Test.YtanhdklaponekaaMtQ
namespace Go.Proofs.Ytanhdklaponekaa
open Go Go.RowKit

theorem ints_at {w : World} {S : Nat → Prop} {v : Value} {l : List Int} (h : Row w S 1 v l.length (l.map (.int .i64))) {i : Nat} (hi : i < l.length) :
    ∃ b o cap, v = .slice (some ⟨b, o, none⟩) l.length cap ∧ S b ∧ w.cell? ⟨b, o + i, none⟩ = some (.int .i64 l[i]) := by
  obtain ⟨h1, A, cap, hsl, h2, h3, h0, h4⟩ := h
  obtain ⟨b, o, rfl, hSb, hcc⟩ := h4 (by omega)
  exact ⟨b, o, cap, hsl, hSb, hcc i _ (by rw [List.getElem?_map, List.getElem?_eq_getElem hi]; rfl)⟩
set_option maxHeartbeats 1000000 in
set_option maxRecDepth 100000 in
theorem ints_calls {w : World} {S : Nat → Prop} {v1 v2 : Value} {a1 a2 : List Int} (h1 : Row w S 1 v1 a1.length (a1.map (.int .i64))) (h2 : Row w S 1 v2 a2.length (a2.map (.int .i64))) (hS : Old S w) :
    Calls Try.prog 33 #[v1, v2] w fun e w' => e = .returned (.bool (decide (a1 = a2))) ∧ Below w.heap.size w w' := by
  obtain ⟨A1, c1, rfl, hl1⟩ := h1.form
  obtain ⟨A2, c2, rfl, hl2⟩ := h2.form
  have H1 := Lib.hid h1
  have H2 := Lib.hid h2
  have HS := Lib.hid hS
  clear h1 h2 hS
  go_enter Try.func33, Try.ntmps33
  by_cases hl : a1.length = a2.length
  case neg =>
    have hb : ((a1.length : Int) != (a2.length : Int)) = true := by simp; omega
    have HR : Hid (decide (a1 = a2) = false) := Lib.hid (decide_eq_false fun e => hl (by rw [e]))
    clear hl
    go_wp2_with fail
    go_ret
    exact ⟨by rw [HR.out]; rfl, Below.refl _ _⟩
  case pos =>
    have hb : ((a1.length : Int) != (a2.length : Int)) = false := by simp; omega
    have HL := Lib.hid hl
    clear hl
    go_wp2_with fail
    go_loopg [5] a1.length (fun m i wr => ∃ (j : Nat), m = a1.length - j ∧ j ≤ a1.length ∧ i = .int .i64 j ∧ Hid (a1.take j = a2.take j) ∧ Hid (Below w.heap.size w wr))
    case atStart => exact ⟨0, by simp, by omega, rfl, rfl, Below.refl _ _⟩
    case round =>
      obtain ⟨j, rfl, hj, rfl, HT, HB⟩ := hrel
      by_cases hlt : j < a1.length
      · have hlt2 : j < a2.length := by have := HL.out; omega
        have hsm : SameOn S w wr := SameOn.of_below HB.out HS.out
        obtain ⟨b1, o1, cp1, hv1, hS1, q1⟩ := ints_at (H1.out.keep hsm) hlt
        obtain ⟨b2, o2, cp2, hv2, hS2, q2⟩ := ints_at (H2.out.keep hsm) hlt2
        cases hv1
        cases hv2
        have hzr := HB.out.size
        have hbl1 : b1 < wr.heap.size := by have := HS.out b1 hS1; omega
        have hbl2 : b2 < wr.heap.size := by have := HS.out b2 hS2; omega
        have hj3 : (j : Int) < (a1.length : Int) := by omega
        have hj4 : (j : Int) < (a2.length : Int) := by omega
        have hj5 : (0 : Int) ≤ (j : Int) := by omega
        clear hsm hS1 hS2
        obtain ⟨x1, hx1⟩ : ∃ x, a1[j] = x := ⟨_, rfl⟩
        obtain ⟨x2, hx2⟩ : ∃ x, a2[j] = x := ⟨_, rfl⟩
        rw [hx1] at q1
        rw [hx2] at q2
        by_cases he : x1 = x2
        · have hbe : (x1 != x2) = false := by simpa using he
          have HTN : Hid (a1.take (j + 1) = a2.take (j + 1)) := by
            rw [List.take_succ_eq_append_getElem hlt, List.take_succ_eq_append_getElem hlt2, HT.out, hx1, hx2, he]; exact rfl
          clear he hx1 hx2
          go_wp2_with fail
          go_region
          all_goals
            go_wp2_with fail
            go_roundg (a1.length - (j + 1))
            case measure => omega
            case rel => exact ⟨j + 1, rfl, by omega, by go_num, HTN, HB.out.drew⟩
        · have hbe : (x1 != x2) = true := by simpa using he
          have HR : Hid (decide (a1 = a2) = false) := Lib.hid (decide_eq_false fun e => he (by subst e; rw [← hx1, ← hx2]))
          clear he hx1 hx2
          go_wp2_with fail
          go_region
          all_goals
            go_wp2_with fail
            go_ret
            exact ⟨by rw [HR.out]; rfl, HB.out.drew⟩
      · obtain rfl : j = a1.length := by omega
        have HR : Hid (decide (a1 = a2) = true) := by
          have := HT.out
          rw [List.take_of_length_le (Nat.le_refl _), List.take_of_length_le (by rw [HL.out]; exact Nat.le_refl _)] at this
          exact Lib.hid (decide_eq_true this)
        clear hlt hj HT
        go_wp2_with fail
        go_ret
        exact ⟨by rw [HR.out]; rfl, HB.out⟩

/-! ### the rows, computed -/
section
variable (L : List Nd) (U : T → T) {σ : Type} (step : σ → List (ByteArray × Fd) → σ) (cont : σ → List (ByteArray × Fd) → Bool) (ok : σ → Bool)
def bdB (ps : List (T × List Int)) (met : List ByteArray) : Bool := (List.range (ps.length + 1)).all fun j =>
  decide ((rowAt L U ps met j).row.length ≤ 1000) && decide ((rowAt L U ps met j).nx.length ≤ 1000) && decide ((rowAt L U ps met j).met.length ≤ 1000) &&
    decide ((lookD L (pAt ps j).1.nm).ms.length ≤ 1000) && decide ((stU U (pAt ps j).1).ks.length ≤ 1000) && decide ((pAt ps j).2.length ≤ 1000)
def runB : Nat → σ → List (T × List Int) → List ByteArray → Option σ
  | 0, _, _, _ => none
  | n + 1, s, ps, met => match ps with
    | [] => some s
    | _ :: _ => if bdB L U ps met = true then
        (if cont s (rowAt L U ps met ps.length).row = true then
          (if ok (step s (rowAt L U ps met ps.length).row) = true then runB n (step s (rowAt L U ps met ps.length).row) (rowAt L U ps met ps.length).nx (rowAt L U ps met ps.length).met else none)
         else some (step s (rowAt L U ps met ps.length).row)) else none
theorem bd_of {ps : List (T × List Int)} {met : List ByteArray} (h : bdB L U ps met = true) : Bd L U ps met := by
  unfold bdB at h
  rw [List.all_eq_true] at h
  intro j hj
  have := h j (List.mem_range.2 (by omega))
  simp only [Bool.and_eq_true, decide_eq_true_eq] at this
  obtain ⟨⟨⟨⟨⟨h1, h2⟩, h3⟩, h4⟩, h5⟩, h6⟩ := this
  exact ⟨by omega, by omega, by omega, fun _ => ⟨by omega, by omega, by omega⟩⟩
theorem run_of {Cont : σ → Prop} (hC : ∀ s, ok s = true → Cont s) : ∀ {n : Nat} {s : σ} {ps : List (T × List Int)} {met : List ByteArray} {r : σ}, runB L U step cont ok n s ps met = some r → RunR L U step cont Cont n s ps met r
  | 0, s, ps, met, r, h => by simp [runB] at h
  | n + 1, s, [], met, r, h => by
    simp only [runB, Option.some.injEq] at h
    unfold RunR
    exact .inl ⟨rfl, h.symm⟩
  | n + 1, s, p :: ps, met, r, h => by
    rw [runB] at h
    unfold RunR
    split at h
    · rename_i hb
      refine .inr ⟨by simp, bd_of L U hb, ?_⟩
      split at h
      · rename_i hc
        split at h
        · rename_i hok
          exact .inr ⟨hc, hC _ hok, run_of hC h⟩
        · exact absurd h (by simp)
      · rename_i hc
        simp only [Option.some.injEq] at h
        exact .inl ⟨by simpa using hc, h.symm⟩
    · exact absurd h (by simp)
end
/-- what a type is underneath, where nothing declared is a declared type underneath -/
def U1 (L : List Nd) (t : T) : T := if t.kd = 8 then (match look L t.nm with
  | none => t
  | some d => d.un) else t
theorem und1 {L : List Nd} (h : ∀ d ∈ L, d.un.kd ≠ 8) : UndF L (U1 L) := by
  intro t
  refine ⟨2, ?_⟩
  unfold undr U1
  by_cases h8 : t.kd = 8
  · rw [if_pos h8, if_pos h8]
    cases hl : look L t.nm with
    | none => rfl
    | some d => exact if_neg (h d (look_mem hl))
  · rw [if_neg h8, if_neg h8]
end Go.Proofs.Ytanhdklaponekaa
