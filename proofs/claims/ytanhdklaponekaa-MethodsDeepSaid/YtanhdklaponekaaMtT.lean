/- methods.Set's closure. -/
import Derived.Test.YtanhdklaponekaaMtF
namespace Go.Proofs.Ytanhdklaponekaa
open Go Go.RowKit

/-- the names of a row's methods, behind those that were told -/
def stepS1 (s : List ByteArray) (x : ByteArray × Fd) : List ByteArray := if x.2.kd = 7 then s else x.1 :: s
def stepS (s : List ByteArray) (l : List (ByteArray × Fd)) : List ByteArray := l.foldl stepS1 s
theorem stepS_snoc (s : List ByteArray) (l : List (ByteArray × Fd)) (x : ByteArray × Fd) : stepS s (l ++ [x]) = stepS1 (stepS s l) x := by
  unfold stepS; rw [List.foldl_append]; rfl
theorem stepS1_len (s : List ByteArray) (x : ByteArray × Fd) : (stepS1 s x).length ≤ s.length + 1 := by
  unfold stepS1; split <;> simp
theorem stepS_len (s : List ByteArray) : ∀ l : List (ByteArray × Fd), (stepS s l).length ≤ s.length + l.length
  | [] => Nat.le_refl _
  | x :: l => by
    have h1 := stepS_len (stepS1 s x) l
    have h2 := stepS1_len s x
    show (stepS (stepS1 s x) l).length ≤ s.length + (l.length + 1)
    omega
theorem enters_set1 (args : Array Value) (w : World) : (callFunc 74 args).run Try.prog w = .ok (.enter 74 args) w := by kernel_rfl
/-- as wpList_met, with more room -/
theorem wpList_met2 {w : World} {mb : Nat} {met : List ByteArray} {ops : Array Oper} {rest : List Oper} {o : Oper} {a : Act} {Q : Exit → Act → World → Prop} (hg : o.guard = none) (m x v : Operand) (hop : o.op = Op.mapUpdate 101 m x v)
    (h : MetR w mb met) {s : ByteArray} (hm : a.eval m = .map (some mb)) (hx : a.eval x = .string s) (hv : a.eval v = .int .i64 1) (hs : s.size ≤ Lim) (hn : met.length ≤ 9000000000)
    (hK : ∀ w', MetR w' mb (s :: met) → w.grownBy w' (some mb) → wpList Try.prog ops Q rest (a.put o.dst undef) w') : wpList Try.prog ops Q (o :: rest) a w := by
  obtain ⟨D, h1, h2⟩ := h
  refine wpList_mapUpdate_own w hg m x v 101 hop 9 3 (Maps.string_keyed Try.underlying9) Try.underlying101 (plainElem Try.prog 3) mb met.length D hm h1 (by unfold maxLen; omega) (.string s) (.int .i64 1) (keyS s) hx hv
    (WideMaps.keyOf_string_mk (s := s) Try.underlying9 (by unfold Lim at hs; unfold maxLen; omega)) (.lit (.int .i64 1)) [] (by simp [plainElem, Try.underlying3]; decide) fun w' g1 g2 => hK w' ⟨_, g1, fun s2 => ?_⟩ g2
  rw [inM_cons]
  by_cases e : s = s2
  · subst e
    rw [Maps.atKey_put_same (isMap_own h1) (by simp [keyS, WideAt.IsKeyLit]), Maps.has_put_same (isMap_own h1) (by simp [keyS, WideAt.IsKeyLit])]
    simp
  · rw [Maps.atKey_put_other (fun e2 => keyS_ne e e2.symm), Maps.has_put_other (fun e2 => keyS_ne e e2.symm), (h2 s2).1, (h2 s2).2]
    simp [e]

set_option maxHeartbeats 4000000 in
set_option maxRecDepth 100000 in
theorem set1_calls {w : World} {S : Nat → Prop} {nc nm : Nat} {met : List ByteArray} {v : Value} {l : List (ByteArray × Fd)} {xs : List Value} (hc : w.cell? ⟨nc, 0, none⟩ = some (.map (some nm))) (hnc : nc < w.heap.size ∧ nc ≠ nm) (hm : MetR w nm met)
    (hr : Row w S 13 v l.length xs) (ha : AllR (NfR w S) l xs) (hS : ∀ b, S b → b < w.heap.size ∧ b ≠ nm) (hl : l.length ≤ 1000000000) (hml : met.length ≤ 1000000000) (hok : ∀ x ∈ l, FOk x) :
    Calls Try.prog 74 #[v, .pointer (some ⟨nc, 0, none⟩)] w fun e w' => e = .returned (.bool true) ∧ MetR w' nm (stepS met l) ∧ But (fun b => b = nm) w w' := by
  obtain ⟨A, cap, rfl, hl2⟩ := hr.form
  have HR := Lib.hid hr
  have HA := Lib.hid ha
  have HS := Lib.hid hS
  have HC := Lib.hid hc
  have HNC := Lib.hid hnc
  have HM := Lib.hid hm
  have HOK := Lib.hid hok
  clear hr ha hS hc hnc hm hok
  go_enter Try.func74, Try.ntmps74
  go_wp2_with fail
  go_loopg [8] l.length (fun d i wr => ∃ (j : Nat), d = l.length - j ∧ j ≤ l.length ∧ i = .int .i64 j ∧ Hid (MetR wr nm (stepS met (l.take j))) ∧ Hid (But (fun b => b = nm) w wr))
  case atStart => exact ⟨0, by simp, by omega, rfl, HM, But.refl _ _⟩
  case round =>
    obtain ⟨j, rfl, hj, rfl, HMJ, HB⟩ := hrel
    have hzr := HB.out.size
    have hcn : wr.cell? ⟨nc, 0, none⟩ = some (.map (some nm)) := (World.cell?_of_block (a := ⟨nc, 0, none⟩) (HB.out.block nc HNC.out.1 HNC.out.2)).trans HC.out
    by_cases hlt : j < l.length
    · have hsm : SameOn S w wr := HB.out.sameOn fun b hb => HS.out b hb
      obtain ⟨b, o, cap', A1, c1, A2, c2, A3, c3, A4, c4, hv, hSb, hfd, q0, q1, q2, q3, q4, q5, q6, q7, q8, q9, q10, q11, q12⟩ := nfAt (HR.out.keep hsm) (HA.out.imp fun _ _ k => k.keep hsm (fun _ h => h)) hlt
      cases hv
      have hj3 : (j : Int) < (l.length : Int) := by omega
      have hbl : b < wr.heap.size := Nat.lt_of_lt_of_le (HS.out b hSb).1 hzr
      have hnl : nc < wr.heap.size := Nat.lt_of_lt_of_le HNC.out.1 hzr
      have HFO : Hid (FOk l[j]) := HOK.out _ (List.getElem_mem hlt)
      have HST : Hid (stepS met (l.take (j + 1)) = stepS1 (stepS met (l.take j)) l[j]) := by rw [List.take_succ_eq_append_getElem hlt]; exact stepS_snoc _ _ _
      have hsl := stepS_len met (l.take j)
      rw [List.length_take] at hsl
      have HSL : Hid ((stepS met (l.take j)).length ≤ 9000000000) := Lib.hid (by omega)
      have HMA : Hid (MetR (wr.alloc (.cells #[.string l[j].1, .int .i64 l[j].2.kd, .string l[j].2.ow, .int .i64 l[j].2.ty.kd, .string l[j].2.ty.nm, .int .i64 l[j].2.ty.n, .bool l[j].2.ty.fl, .slice A1 l[j].2.ty.ns.length c1, .slice A2 l[j].2.ty.ms.length c2, .slice A3 l[j].2.ty.ks.length c3, .slice A4 l[j].2.pa.length c4, .bool l[j].2.p, .bool l[j].2.df] 95)) nm (stepS met (l.take j))) := HMJ.out.same (Below.heap_alloc _ _ _ HMJ.out.lt)
      have HBA : Hid (But (fun b => b = nm) w (wr.alloc (.cells #[.string l[j].1, .int .i64 l[j].2.kd, .string l[j].2.ow, .int .i64 l[j].2.ty.kd, .string l[j].2.ty.nm, .int .i64 l[j].2.ty.n, .bool l[j].2.ty.fl, .slice A1 l[j].2.ty.ns.length c1, .slice A2 l[j].2.ty.ms.length c2, .slice A3 l[j].2.ty.ks.length c3, .slice A4 l[j].2.pa.length c4, .bool l[j].2.p, .bool l[j].2.df] 95))) := HB.out.alloc _
      clear hsm hSb hfd hsl
      by_cases h7 : l[j].2.kd = 7
      · have b7 : (l[j].2.kd != 7) = false := by simpa using h7
        have HEQ : Hid (stepS met (l.take (j + 1)) = stepS met (l.take j)) := by rw [HST.out, stepS1, if_pos h7]; exact rfl
        clear h7
        go_wp2_with fail
        go_roundg (l.length - (j + 1))
        case measure => omega
        case rel => exact ⟨j + 1, rfl, by omega, by go_num, by rw [HEQ.out]; exact HMA, HBA⟩
      · have b7 : (l[j].2.kd != 7) = true := by simpa using h7
        have HEQ : Hid (stepS met (l.take (j + 1)) = l[j].1 :: stepS met (l.take j)) := by rw [HST.out, stepS1, if_neg h7]; exact rfl
        clear h7
        go_wp2_with (at_mapUpdate; refine wpList_met2 rfl _ _ _ rfl HMA.out (s := l[j].1) rfl rfl rfl HFO.out.1 HSL.out ?_)
        intro w2 hm2 hg2
        have HMF := Lib.hid hm2
        have HBF : Hid (But (fun b => b = nm) w w2) := HBA.out.trans (But.of_grown hg2 fun b hb => by simpa using hb.symm) fun _ _ h => h
        clear hm2 hg2
        go_wp2_with fail
        go_roundg (l.length - (j + 1))
        case measure => omega
        case rel => exact ⟨j + 1, rfl, by omega, by go_num, by rw [HEQ.out]; exact HMF, HBF⟩
    · obtain rfl : j = l.length := by omega
      have HFIN : Hid (MetR wr nm (stepS met l)) := by have := HMJ.out; rw [List.take_of_length_le (Nat.le_refl _)] at this; exact this
      clear HMJ hlt hj
      go_wp2_with fail
      go_ret
      exact ⟨rfl, HFIN.out, HB.out⟩

/-- the closure's place in rows: it writes the names' map alone -/
theorem dep_set {w : World} {nc nm : Nat} {Z : Nat → Prop} (hc : w.cell? ⟨nc, 0, none⟩ = some (.map (some nm))) (hnc : nc < w.heap.size ∧ nc ≠ nm) (hZ : Z nm) :
    Dep 74 #[.pointer (some ⟨nc, 0, none⟩)] nm Z w (fun s => s.length ≤ 1000000000) (fun s w => MetR w nm s) stepS (fun _ _ => true) := by
  refine ⟨enters_set1, ?_, ?_⟩
  · intro s wx S v l xs hcs ho hbut hrow hdat hS hl hok
    exact set1_calls ((World.cell?_of_block (a := ⟨nc, 0, none⟩) (hbut.block nc hnc.1 hnc.2)).trans hc) ⟨by have := hbut.size; omega, hnc.2⟩ ho hrow hdat (fun b hb => ⟨(hS b hb).1, fun e => (hS b hb).2 (e ▸ hZ)⟩) hl hcs hok
  · intro s wx w' hcs ho hb hz
    exact ho.same hb
end Go.Proofs.Ytanhdklaponekaa
