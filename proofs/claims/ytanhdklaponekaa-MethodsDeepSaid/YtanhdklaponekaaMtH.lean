/- types.World.circle: does a declared type hold itself? -/
import Derived.Test.YtanhdklaponekaaMtK
namespace Go.Proofs.Ytanhdklaponekaa
open Go Go.RowKit

section
set_option maxHeartbeats 1000000
set_option maxRecDepth 100000
theorem index_q {F : FuncId} (hF : ∀ args w, (callFunc F args).run Try.prog w = .ok (.enter F args) w) {caps : Array Value} {P : Nat → World → Prop} {Q : World → Prop} {ts : List T} {v : Value} {w : World} {S : Nat → Prop} (h : RowT w S v ts) (h0 : P 0 w) (hP : ∀ j wx, j ≤ ts.length → P j wx → SameOn S w wx)
    (hrun : ∀ j (hj : j < ts.length) wx cs, P j wx → TyR wx S ts[j] cs → Calls Try.prog F (#[.agg cs.toArray] ++ caps) wx fun e w' => ∃ q, e = .returned (.bool q) ∧ (q = true → Q w') ∧ (q = false → P (j + 1) w')) :
    Calls Try.prog 72 #[v, .func (.func F) #[] caps] w fun e w' => ∃ i : Int, e = .returned (.int .i64 i) ∧ (decide (0 ≤ i) = true → Q w') ∧ (decide (0 ≤ i) = false → P ts.length w') := by
  have hlen : ts.length ≤ 9223372036854775807 := by obtain ⟨_, _, _, h⟩ := h.form; exact h
  obtain ⟨A, cap, rfl, -⟩ := h.form
  have H := Lib.hid h
  have H0 := Lib.hid h0
  have HP := Lib.hid hP
  have HR := Lib.hid hrun
  have HF := Lib.hid hF
  clear h h0 hP hrun hF
  go_enter Try.func72, Try.ntmps72
  go_wp2_with fail
  go_loopg [8] ts.length (fun d i wr => ∃ (j : Nat), d = ts.length - j ∧ j ≤ ts.length ∧ i = .int .i64 j ∧ Hid (P j wr))
  case atStart => exact ⟨0, by simp, by omega, rfl, H0.out⟩
  case round =>
    obtain ⟨j, rfl, hj, rfl, HPJ⟩ := hrel
    have HSX : Hid (SameOn S w wr) := HP.out j wr hj HPJ.out
    by_cases hlt : j < ts.length
    · have hr := H.out.keep HSX.out (fun _ h => h)
      obtain ⟨bb, o, c, B1, d1, B2, d2, B3, d3, hv, hSb, ⟨g0, g1, g2, g3, g4, g5, g6⟩, hkr⟩ := hr.at_ hlt
      cases hv
      have HKR := Lib.hid hkr
      clear hkr hr
      go_wp2_with fail
      rw [HF.out, Oper.upon_enter]
      refine (HR.out j hlt wr [.int .i64 ts[j].kd, .string ts[j].nm, .int .i64 ts[j].n, .bool ts[j].fl, .slice B1 ts[j].ns.length d1, .slice B2 ts[j].ms.length d2, .slice B3 ts[j].ks.length d3] HPJ.out HKR.out).mono ?_
      rintro e w1 ⟨q, rfl, hq1, hq2⟩
      have HQ1 := Lib.hid hq1
      have HQ2 := Lib.hid hq2
      clear hq1 hq2
      cases q with
      | true =>
        have HQT : Hid (Q w1) := HQ1.out rfl
        go_wp2_with fail
        go_ret
        exact ⟨j, rfl, fun _ => HQT.out, fun e => absurd e (by simp)⟩
      | false =>
        have HSN : Hid (P (j + 1) w1) := HQ2.out rfl
        go_wp2_with fail
        go_roundg (ts.length - (j + 1))
        case measure => omega
        case rel => exact ⟨j + 1, rfl, by omega, by go_num, HSN⟩
    · obtain rfl : j = ts.length := by omega
      go_wp2_with fail
      go_ret
      exact ⟨-1, rfl, fun e => absurd e (by decide), fun _ => HPJ.out⟩
theorem contains_q {F : FuncId} (hF : ∀ args w, (callFunc F args).run Try.prog w = .ok (.enter F args) w) {caps : Array Value} {P : Nat → World → Prop} {Q : World → Prop} {ts : List T} {v : Value} {w : World} {S : Nat → Prop} (h : RowT w S v ts) (h0 : P 0 w) (hP : ∀ j wx, j ≤ ts.length → P j wx → SameOn S w wx)
    (hrun : ∀ j (hj : j < ts.length) wx cs, P j wx → TyR wx S ts[j] cs → Calls Try.prog F (#[.agg cs.toArray] ++ caps) wx fun e w' => ∃ q, e = .returned (.bool q) ∧ (q = true → Q w') ∧ (q = false → P (j + 1) w')) :
    Calls Try.prog 56 #[v, .func (.func F) #[] caps] w fun e w' => ∃ q : Bool, e = .returned (.bool q) ∧ (q = true → Q w') ∧ (q = false → P ts.length w') := by
  obtain ⟨A, cap, rfl, -⟩ := h.form
  have H := Lib.hid h
  have H0 := Lib.hid h0
  have HP := Lib.hid hP
  have HR := Lib.hid hrun
  have HF := Lib.hid hF
  clear h h0 hP hrun hF
  go_enter Try.func56, Try.ntmps56
  go_wp2_with fail
  refine (index_q (F := F) (caps := caps) (P := P) (Q := Q) HF.out H.out H0.out HP.out HR.out).mono ?_
  rintro e w1 ⟨i, rfl, h1, h2⟩
  have H1 := Lib.hid h1
  have H2 := Lib.hid h2
  clear h1 h2
  go_wp2_with fail
  go_ret
  exact ⟨_, rfl, H1.out, H2.out⟩
end

/-! ### what holds computes -/
def anyP (h : T → List ByteArray → Option (Bool × List ByteArray)) : List T → List ByteArray → Option (Bool × List ByteArray)
  | [], met => some (false, met)
  | k :: ks, met => match h k met with
    | none => none
    | some (true, m) => some (true, m)
    | some (false, m) => anyP h ks m
def holdsP (L : List Nd) (name : ByteArray) : Nat → T → List ByteArray → Option (Bool × List ByteArray)
  | 0, _, _ => none
  | n + 1, t, met => if t.kd = 14 then anyP (holdsP L name n) t.ks met else if t.kd ≠ 8 then some (false, met) else if t.nm = name ∧ inM met name = true then some (true, met)
      else if inM met t.nm = true then some (false, met) else holdsP L name n (lookD L t.nm).un (t.nm :: met)
theorem anyP_len {h : T → List ByteArray → Option (Bool × List ByteArray)} (hh : ∀ k m r m', h k m = some (r, m') → m.length ≤ m'.length) : ∀ {ks : List T} {met : List ByteArray} {r : Bool} {met' : List ByteArray}, anyP h ks met = some (r, met') → met.length ≤ met'.length
  | [], met, r, met', e => by simp [anyP] at e; rw [e.2]; exact Nat.le_refl _
  | k :: ks, met, r, met', e => by
    unfold anyP at e
    split at e
    · exact absurd e (by simp)
    · rename_i m hk
      simp only [Option.some.injEq, Prod.mk.injEq] at e
      rw [← e.2]
      exact hh _ _ _ _ hk
    · rename_i m hk
      exact Nat.le_trans (hh _ _ _ _ hk) (anyP_len hh e)
theorem holdsP_len {L : List Nd} {name : ByteArray} : ∀ {n : Nat} {t : T} {met : List ByteArray} {r : Bool} {met' : List ByteArray}, holdsP L name n t met = some (r, met') → met.length ≤ met'.length
  | 0, t, met, r, met', e => by simp [holdsP] at e
  | n + 1, t, met, r, met', e => by
    unfold holdsP at e
    split at e
    · exact anyP_len (fun k m r m' h => holdsP_len h) e
    · split at e
      · simp only [Option.some.injEq, Prod.mk.injEq] at e; rw [← e.2]; exact Nat.le_refl _
      · split at e
        · simp only [Option.some.injEq, Prod.mk.injEq] at e; rw [← e.2]; exact Nat.le_refl _
        · split at e
          · simp only [Option.some.injEq, Prod.mk.injEq] at e; rw [← e.2]; exact Nat.le_refl _
          · have := holdsP_len e
            simp only [List.length_cons] at this
            omega

/-- what holds finds in memory -/
structure HE (w : World) (Sw : Nat → Prop) (g : Nat) (L : List Nd) (hb nb mcb wb mb : Nat) (name : ByteArray) : Prop where
  wld : WC w Sw g L
  sw : ∀ b, Sw b → b ≠ mb
  hl : hb < w.heap.size ∧ hb ≠ mb
  nl : nb < w.heap.size ∧ nb ≠ mb
  ml : mcb < w.heap.size ∧ mcb ≠ mb
  wl : wb < w.heap.size ∧ wb ≠ mb
  hc : w.cell? ⟨hb, 0, none⟩ = some (.func (.func 77) #[] #[.pointer (some ⟨hb, 0, none⟩), .pointer (some ⟨nb, 0, none⟩), .pointer (some ⟨mcb, 0, none⟩), .pointer (some ⟨wb, 0, none⟩)])
  nc : w.cell? ⟨nb, 0, none⟩ = some (.string name)
  mc : w.cell? ⟨mcb, 0, none⟩ = some (.map (some mb))
  wc : w.cell? ⟨wb, 0, none⟩ = some (.pointer (some ⟨g, 0, none⟩))
  ok : name.size ≤ Lim
theorem HE.but {w w' : World} {Sw : Nat → Prop} {g : Nat} {L : List Nd} {hb nb mcb wb mb : Nat} {name : ByteArray} (h : HE w Sw g L hb nb mcb wb mb name) (hx : But (fun b => b = mb) w w') : HE w' Sw g L hb nb mcb wb mb name := by
  have hz := hx.size
  have hc : ∀ {b : Nat}, b < w.heap.size ∧ b ≠ mb → w'.cell? ⟨b, 0, none⟩ = w.cell? ⟨b, 0, none⟩ := fun {b} hb' => World.cell?_of_block (a := ⟨b, 0, none⟩) (hx.block b hb'.1 hb'.2)
  exact ⟨h.wld.same (hx.sameOn fun b hb' => ⟨h.wld.old b hb', h.sw b hb'⟩) hz, h.sw, ⟨by have := h.hl; omega, h.hl.2⟩, ⟨by have := h.nl; omega, h.nl.2⟩, ⟨by have := h.ml; omega, h.ml.2⟩, ⟨by have := h.wl; omega, h.wl.2⟩,
    (hc h.hl).trans h.hc, (hc h.nl).trans h.nc, (hc h.ml).trans h.mc, (hc h.wl).trans h.wc, h.ok⟩
theorem SameOn.dr {S : Nat → Prop} {x y : World} (h : SameOn S x y) : SameOn S x y.drew := h
theorem enters_holds (args : Array Value) (w : World) : (callFunc 77 args).run Try.prog w = .ok (.enter 77 args) w := by kernel_rfl
theorem fieldU (c0 c1 c2 c3 c4 c5 c6 c7 c8 : Value) (w : World) : (Instr.field 43 (.agg #[c0, c1, c2, c3, c4, c5, c6, c7, c8]) 1).run Try.prog w = .ok (.agg #[c1, c2, c3, c4, c5, c6, c7]) w := by kernel_rfl
def HoldsAt (L : List Nd) (name : ByteArray) (n : Nat) : Prop := ∀ (t : T) (met : List ByteArray) (r : Bool) (met' : List ByteArray), holdsP L name n t met = some (r, met') → met'.length ≤ 1000000000 →
  ∀ (w : World) (S Sw : Nat → Prop) (g hb nb mcb wb mb : Nat) (cs : List Value), HE w Sw g L hb nb mcb wb mb name → MetR w mb met → TyR w S t cs → (∀ b, S b → b < w.heap.size ∧ b ≠ mb) → t.ok →
    Calls Try.prog 77 #[.agg cs.toArray, .pointer (some ⟨hb, 0, none⟩), .pointer (some ⟨nb, 0, none⟩), .pointer (some ⟨mcb, 0, none⟩), .pointer (some ⟨wb, 0, none⟩)] w fun e w' => e = .returned (.bool r) ∧ MetR w' mb met' ∧ But (fun b => b = mb) w w'

set_option maxHeartbeats 4000000 in
set_option maxRecDepth 100000 in
theorem holds_at (L : List Nd) (name : ByteArray) : ∀ n, HoldsAt L name n
  | 0 => fun t met r met' e => by simp [holdsP] at e
  | n + 1 => by
    intro t met r met' he hlim w S Sw g hb nb mcb wb mb cs hE hM ht hS hok
    have IH := Lib.hid (holds_at L name n)
    obtain ⟨A1, c1, A2, c2, A3, c3, rfl, -⟩ := ht.forms
    have hE2 := hE.but ((But.refl _ _).alloc (.cells #[.int .i64 t.kd, .string t.nm, .int .i64 t.n, .bool t.fl, .slice A1 t.ns.length c1, .slice A2 t.ms.length c2, .slice A3 t.ks.length c3] 26))
    have hc1 := hE2.hc
    have hc2 := hE2.nc
    have hc3 := hE2.mc
    have hc4 := hE2.wc
    have hM2 := hM.same (Below.heap_alloc w (.cells #[.int .i64 t.kd, .string t.nm, .int .i64 t.n, .bool t.fl, .slice A1 t.ns.length c1, .slice A2 t.ms.length c2, .slice A3 t.ks.length c3] 26) _ hM.lt)
    have HE2 := Lib.hid hE2
    have HM2 := Lib.hid hM2
    have HT := Lib.hid ht
    have HS := Lib.hid hS
    have HK := Lib.hid hok
    have HLIM := Lib.hid hlim
    have hnm : t.nm.size ≤ Lim := by
      obtain ⟨k, nm, n, f, ns, ms, ks⟩ := t
      exact hok.2.2.1
    have HNM := Lib.hid hnm
    unfold holdsP at he
    have hmbl := hM.lt
    clear hE2 hM hE ht hS hok hlim hnm hM2
    go_enter Try.func77, Try.ntmps77
    by_cases h14 : t.kd = 14
    · rw [if_pos h14] at he
      have b14 : (t.kd == 14) = true := by simpa using h14
      have HEQ := Lib.hid he
      clear h14 he
      go_wp2_with fail
      refine (contains_q (F := 77) (caps := #[.pointer (some ⟨hb, 0, none⟩), .pointer (some ⟨nb, 0, none⟩), .pointer (some ⟨mcb, 0, none⟩), .pointer (some ⟨wb, 0, none⟩)]) (ts := t.ks) (S := S)
        (P := fun j wx => ∃ mj, anyP (holdsP L name n) (t.ks.drop j) mj = some (r, met') ∧ MetR wx mb mj ∧ But (fun b => b = mb) (w.alloc (.cells #[.int .i64 t.kd, .string t.nm, .int .i64 t.n, .bool t.fl, .slice A1 t.ns.length c1, .slice A2 t.ms.length c2, .slice A3 t.ks.length c3] 26)) wx) (Q := fun wx => r = true ∧ MetR wx mb met' ∧ But (fun b => b = mb) (w.alloc (.cells #[.int .i64 t.kd, .string t.nm, .int .i64 t.n, .bool t.fl, .slice A1 t.ns.length c1, .slice A2 t.ms.length c2, .slice A3 t.ks.length c3] 26)) wx)
        enters_holds (HT.out.row3.keep (SameOn.of_below (below_al _ _) fun b hb' => (HS.out b hb').1) (fun _ h => h)) ⟨met, by simpa using HEQ.out, HM2.out, But.refl _ _⟩ (fun j wx _ ⟨mj, _, _, hx⟩ => hx.sameOn fun b hb' => ⟨by have := (HS.out b hb').1; simp; omega, (HS.out b hb').2⟩) ?_).mono ?_
      · rintro j hj wx cs ⟨mj, hany, hmj, hx⟩ hty
        have hzx := hx.size
        simp at hzx
        rw [List.drop_eq_getElem_cons hj, anyP] at hany
        have hkok : t.ks[j].ok := kids_ok HK.out _ (List.getElem_mem hj)
        cases hk : holdsP L name n t.ks[j] mj with
        | none => rw [hk] at hany; exact absurd hany (by simp)
        | some qm =>
          obtain ⟨q, m⟩ := qm
          rw [hk] at hany
          have hml : m.length ≤ 1000000000 := by
            refine Nat.le_trans ?_ HLIM.out
            cases q with
            | true => simp only [Option.some.injEq, Prod.mk.injEq] at hany; rw [hany.2]; exact Nat.le_refl _
            | false => exact anyP_len (fun k m r m' h => holdsP_len h) hany
          refine (IH.out t.ks[j] mj q m hk hml wx S Sw g hb nb mcb wb mb cs (HE2.out.but hx) hmj hty (fun b hb' => ⟨by have := (HS.out b hb').1; omega, (HS.out b hb').2⟩) hkok).mono ?_
          rintro e w2 ⟨rfl, hm2, hb2⟩
          refine ⟨q, rfl, fun e => ?_, fun e => ?_⟩
          · subst e
            simp only [Option.some.injEq, Prod.mk.injEq] at hany
            rw [← hany.2]
            exact ⟨hany.1.symm, hm2, hx.trans hb2 fun _ _ h => h⟩
          · subst e
            exact ⟨m, hany, hm2, hx.trans hb2 fun _ _ h => h⟩
      rintro e w2 ⟨q, rfl, hq1, hq2⟩
      have HFIN : Hid (q = r ∧ MetR w2 mb met' ∧ But (fun b => b = mb) w w2) := by
        have h0 : But (fun b => b = mb) w (w.alloc (.cells #[.int .i64 t.kd, .string t.nm, .int .i64 t.n, .bool t.fl, .slice A1 t.ns.length c1, .slice A2 t.ms.length c2, .slice A3 t.ks.length c3] 26)) := (But.refl _ _).alloc _
        cases q with
        | true =>
          obtain ⟨h1, h2, h3⟩ := hq1 rfl
          exact ⟨h1.symm, h2, h0.trans h3 fun _ _ h => h⟩
        | false =>
          obtain ⟨mj, h1, h2, h3⟩ := hq2 rfl
          rw [List.drop_length, anyP] at h1
          simp only [Option.some.injEq, Prod.mk.injEq] at h1
          rw [← h1.2]
          exact ⟨h1.1, h2, h0.trans h3 fun _ _ h => h⟩
      clear hq1 hq2
      go_wp2_with fail
      go_ret
      exact ⟨by rw [← HFIN.out.1]; rfl, HFIN.out.2⟩
    · rw [if_neg h14] at he
      have b14 : (t.kd == 14) = false := by simpa using h14
      clear h14
      have HB1 : Hid (But (fun b => b = mb) w (w.alloc (.cells #[.int .i64 t.kd, .string t.nm, .int .i64 t.n, .bool t.fl, .slice A1 t.ns.length c1, .slice A2 t.ms.length c2, .slice A3 t.ks.length c3] 26))) := (But.refl _ _).alloc _
      by_cases h8 : t.kd = 8
      · have b8 : (t.kd != 8) = false := by simpa using h8
        rw [if_neg (by simpa using h8)] at he
        clear h8
        have hl1 := HM2.out.look HE2.out.ok (zero_int _)
        have hl2 := HM2.out.look HNM.out (zero_int _)
        by_cases hcase : t.nm = name ∧ inM met name = true
        · rw [if_pos hcase] at he
          simp only [Option.some.injEq, Prod.mk.injEq] at he
          obtain ⟨hq, rfl⟩ := he
          have HQ := Lib.hid hq
          have hbe : (t.nm.toList == name.toList) = true := by rw [bytes_eq]; simpa using hcase.1
          rw [hcase.2] at hl1
          simp only [if_true] at hl1
          clear hcase hl2 hq
          go_wp2_with fail
          go_ret
          exact ⟨by rw [← HQ.out]; rfl, HM2.out, HB1.out⟩
        · rw [if_neg hcase] at he
          by_cases hin : inM met t.nm = true
          · rw [if_pos hin] at he
            simp only [Option.some.injEq, Prod.mk.injEq] at he
            obtain ⟨hq, rfl⟩ := he
            have HQ := Lib.hid hq
            have hbe : (t.nm.toList == name.toList) = false := by
              rw [bytes_eq]
              simp only [decide_eq_false_iff_not]
              intro e
              exact hcase ⟨e, e ▸ hin⟩
            rw [hin] at hl2
            simp only [if_true] at hl2
            clear hcase hl1 hq hin
            go_wp2_with fail
            go_ret
            exact ⟨by rw [← HQ.out]; rfl, HM2.out, HB1.out⟩
          · rw [if_neg hin] at he
            have HEQ := Lib.hid he
            have HML : Hid (met.length ≤ 1000000000) := by
              have h1 := holdsP_len he
              have h2 := HLIM.out
              simp only [List.length_cons] at h1
              exact Lib.hid (by omega)
            have hwork : ((t.nm.toList == name.toList) = true ∧ (Instr.lookup 101 (.map (some mb)) (.string name) false).run Try.prog (w.alloc (.cells #[.int .i64 t.kd, .string t.nm, .int .i64 t.n, .bool t.fl, .slice A1 t.ns.length c1, .slice A2 t.ms.length c2, .slice A3 t.ks.length c3] 26)) = .ok (.int .i64 0) (w.alloc (.cells #[.int .i64 t.kd, .string t.nm, .int .i64 t.n, .bool t.fl, .slice A1 t.ns.length c1, .slice A2 t.ms.length c2, .slice A3 t.ks.length c3] 26))) ∨ (t.nm.toList == name.toList) = false := by
              by_cases e : t.nm = name
              · rw [Bool.not_eq_true] at hin
                rw [← e, hin] at hl1
                simp only [Bool.false_eq_true, if_false] at hl1
                refine .inl ⟨by rw [bytes_eq]; simpa using e, by rw [← e]; exact hl1⟩
              · exact .inr (by rw [bytes_eq]; simpa using e)
            rw [Bool.not_eq_true] at hin
            rw [hin] at hl2
            simp only [Bool.false_eq_true, if_false] at hl2
            clear hcase hl1 hin he
            rcases hwork with ⟨hbe, hl1⟩ | hbe
            · go_wp2_with (at_mapUpdate; refine wpList_met rfl _ _ _ rfl HM2.out (s := t.nm) rfl rfl rfl HNM.out HML.out ?_)
              intro w2 hm2 hg2
              have hz2 := hg2.size
              simp at hz2
              have hbx : But (fun b => b = mb) (w.alloc (.cells #[.int .i64 t.kd, .string t.nm, .int .i64 t.n, .bool t.fl, .slice A1 t.ns.length c1, .slice A2 t.ms.length c2, .slice A3 t.ks.length c3] 26)) w2 := But.of_grown hg2 fun b hb => by simpa using hb.symm
              have HBX : Hid (But (fun b => b = mb) w w2) := HB1.out.trans hbx fun _ _ h => h
              have HEW := Lib.hid (HE2.out.but hbx)
              have HMW := Lib.hid hm2
              have hce : w2.cell? ⟨w.heap.size, 1, none⟩ = some (.string t.nm) := (World.cell?_of_block (a := ⟨w.heap.size, 1, none⟩) (hbx.block w.heap.size (by simp) (by omega))).trans ((Blk.new w 26 #[.int .i64 t.kd, .string t.nm, .int .i64 t.n, .bool t.fl, .slice A1 t.ns.length c1, .slice A2 t.ms.length c2, .slice A3 t.ks.length c3]).cell 1)
              have hd1 := HEW.out.hc
              have hd4 := HEW.out.wc
              obtain ⟨⟨hg, gt, bb, hgt, e1, e2, hbb, htab⟩, hSS, hLL⟩ := HEW.out.wld
              have hgl := hSS g hg
              have hgtl := hSS gt hgt
              obtain ⟨D1, u1, D2, u2, D3, u3, D4, u4, hnd, -, hlk⟩ := htab.looks HNM.out
              have hlk1 := hlk w2.drew rfl
              have HND : Hid (TyR w2 Sw (lookD L t.nm).un [.int .i64 (lookD L t.nm).un.kd, .string (lookD L t.nm).un.nm, .int .i64 (lookD L t.nm).un.n, .bool (lookD L t.nm).un.fl, .slice D1 (lookD L t.nm).un.ns.length u1, .slice D2 (lookD L t.nm).un.ms.length u2, .slice D3 (lookD L t.nm).un.ks.length u3]) := by
                obtain ⟨ct, vm, e, h, _⟩ := hnd
                obtain ⟨B1, k1, B2, k2, B3, k3, rfl, _⟩ := h.forms
                simp only [List.cons_append, List.nil_append, List.cons.injEq] at e
                obtain ⟨-, -, -, -, -, e1, e2, e3, -⟩ := e
                rw [e1, e2, e3]
                exact h
              have HDK : Hid (lookD L t.nm).ok := lookD_ok hLL t.nm
              have HSW : Hid (∀ b, Sw b → b < w2.heap.size ∧ b ≠ mb) := fun b hb' => ⟨hSS b hb', HEW.out.sw b hb'⟩
              have hwl := HEW.out.wl.1
              have hhl := HEW.out.hl.1
              have hwl2 : w.heap.size < w2.heap.size := by omega
              have hfu := fieldU
              clear hm2 hg2 hbx hnd hlk htab hSS hLL hc1 hc2 hc3 hc4 hl2 HM2 HE2
              go_wp2_with fail
              go_region_with
                (first
                  | (go_at_call 77
                     refine (IH.out (lookD L t.nm).un (t.nm :: met) r met' HEQ.out HLIM.out w2.drew Sw Sw g hb nb mcb wb mb [.int .i64 (lookD L t.nm).un.kd, .string (lookD L t.nm).un.nm, .int .i64 (lookD L t.nm).un.n, .bool (lookD L t.nm).un.fl, .slice D1 (lookD L t.nm).un.ns.length u1, .slice D2 (lookD L t.nm).un.ms.length u2, .slice D3 (lookD L t.nm).un.ks.length u3] (HEW.out.but (But.refl _ _).drew) (HMW.out.same rfl) (HND.out.keep (SameOn.dr (SameOn.refl _ _)) (fun _ h => h)) HSW.out HDK.out.2.1).mono ?_
                     rintro e w3 ⟨rfl, hm3, hb3⟩
                     have HFIN : Hid (MetR w3 mb met' ∧ But (fun b => b = mb) w w3) := ⟨hm3, (HBX.out.drew).trans hb3 fun _ _ h => h⟩
                     clear hm3 hb3)
                  | fail)
              all_goals
                go_wp2_with fail
                go_ret
                exact ⟨rfl, HFIN.out⟩
            · go_wp2_with (at_mapUpdate; refine wpList_met rfl _ _ _ rfl HM2.out (s := t.nm) rfl rfl rfl HNM.out HML.out ?_)
              intro w2 hm2 hg2
              have hz2 := hg2.size
              simp at hz2
              have hbx : But (fun b => b = mb) (w.alloc (.cells #[.int .i64 t.kd, .string t.nm, .int .i64 t.n, .bool t.fl, .slice A1 t.ns.length c1, .slice A2 t.ms.length c2, .slice A3 t.ks.length c3] 26)) w2 := But.of_grown hg2 fun b hb => by simpa using hb.symm
              have HBX : Hid (But (fun b => b = mb) w w2) := HB1.out.trans hbx fun _ _ h => h
              have HEW := Lib.hid (HE2.out.but hbx)
              have HMW := Lib.hid hm2
              have hce : w2.cell? ⟨w.heap.size, 1, none⟩ = some (.string t.nm) := (World.cell?_of_block (a := ⟨w.heap.size, 1, none⟩) (hbx.block w.heap.size (by simp) (by omega))).trans ((Blk.new w 26 #[.int .i64 t.kd, .string t.nm, .int .i64 t.n, .bool t.fl, .slice A1 t.ns.length c1, .slice A2 t.ms.length c2, .slice A3 t.ks.length c3]).cell 1)
              have hd1 := HEW.out.hc
              have hd4 := HEW.out.wc
              obtain ⟨⟨hg, gt, bb, hgt, e1, e2, hbb, htab⟩, hSS, hLL⟩ := HEW.out.wld
              have hgl := hSS g hg
              have hgtl := hSS gt hgt
              obtain ⟨D1, u1, D2, u2, D3, u3, D4, u4, hnd, -, hlk⟩ := htab.looks HNM.out
              have hlk1 := hlk w2.drew rfl
              have HND : Hid (TyR w2 Sw (lookD L t.nm).un [.int .i64 (lookD L t.nm).un.kd, .string (lookD L t.nm).un.nm, .int .i64 (lookD L t.nm).un.n, .bool (lookD L t.nm).un.fl, .slice D1 (lookD L t.nm).un.ns.length u1, .slice D2 (lookD L t.nm).un.ms.length u2, .slice D3 (lookD L t.nm).un.ks.length u3]) := by
                obtain ⟨ct, vm, e, h, _⟩ := hnd
                obtain ⟨B1, k1, B2, k2, B3, k3, rfl, _⟩ := h.forms
                simp only [List.cons_append, List.nil_append, List.cons.injEq] at e
                obtain ⟨-, -, -, -, -, e1, e2, e3, -⟩ := e
                rw [e1, e2, e3]
                exact h
              have HDK : Hid (lookD L t.nm).ok := lookD_ok hLL t.nm
              have HSW : Hid (∀ b, Sw b → b < w2.heap.size ∧ b ≠ mb) := fun b hb' => ⟨hSS b hb', HEW.out.sw b hb'⟩
              have hwl := HEW.out.wl.1
              have hhl := HEW.out.hl.1
              have hwl2 : w.heap.size < w2.heap.size := by omega
              have hfu := fieldU
              clear hm2 hg2 hbx hnd hlk htab hSS hLL hc1 hc2 hc3 hc4 hl2 HM2 HE2
              go_wp2_with fail
              go_region_with
                (first
                  | (go_at_call 77
                     refine (IH.out (lookD L t.nm).un (t.nm :: met) r met' HEQ.out HLIM.out w2.drew Sw Sw g hb nb mcb wb mb [.int .i64 (lookD L t.nm).un.kd, .string (lookD L t.nm).un.nm, .int .i64 (lookD L t.nm).un.n, .bool (lookD L t.nm).un.fl, .slice D1 (lookD L t.nm).un.ns.length u1, .slice D2 (lookD L t.nm).un.ms.length u2, .slice D3 (lookD L t.nm).un.ks.length u3] (HEW.out.but (But.refl _ _).drew) (HMW.out.same rfl) (HND.out.keep (SameOn.dr (SameOn.refl _ _)) (fun _ h => h)) HSW.out HDK.out.2.1).mono ?_
                     rintro e w3 ⟨rfl, hm3, hb3⟩
                     have HFIN : Hid (MetR w3 mb met' ∧ But (fun b => b = mb) w w3) := ⟨hm3, (HBX.out.drew).trans hb3 fun _ _ h => h⟩
                     clear hm3 hb3)
                  | fail)
              all_goals
                go_wp2_with fail
                go_ret
                exact ⟨rfl, HFIN.out⟩
      · have b8 : (t.kd != 8) = true := by simpa using h8
        rw [if_pos (by simpa using h8)] at he
        simp only [Option.some.injEq, Prod.mk.injEq] at he
        obtain ⟨hq, rfl⟩ := he
        have HQ := Lib.hid hq
        clear h8 hq
        go_wp2_with fail
        go_ret
        exact ⟨by rw [← HQ.out]; rfl, HM2.out, HB1.out⟩
end Go.Proofs.Ytanhdklaponekaa
