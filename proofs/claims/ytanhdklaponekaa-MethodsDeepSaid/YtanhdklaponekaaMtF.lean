/- methods.Lookup. -/
import Derived.Test.YtanhdklaponekaaMtRw
namespace Go.Proofs.Ytanhdklaponekaa
open Go Go.RowKit

def contL (name : ByteArray) (df : Bool) (_ : List Fd) (l : List (ByteArray × Fd)) : Bool := decide ((hitsP name df l).length = 0)
def stepL (name : ByteArray) (df : Bool) (_ : List Fd) (l : List (ByteArray × Fd)) : List Fd := hitsP name df l
/-- what the closure has told -/
def OutL (ob : Nat) (Z : Nat → Prop) (s : List Fd) (w : World) : Prop :=
  (s = [] → Blk w ob 91 #[.slice none 0 0]) ∧ (s ≠ [] → ∃ S B vo xo, OutV w S ob B vo s xo ∧ ∀ b, S b → b < w.heap.size ∧ ¬ Z b)
theorem enters_lookup (args : Array Value) (w : World) : (callFunc 68 args).run Try.prog w = .ok (.enter 68 args) w := by kernel_rfl

theorem dep_lookup {w : World} {nb db ob : Nat} {name : ByteArray} {df : Bool} {Z : Nat → Prop} (hn : w.cell? ⟨nb, 0, none⟩ = some (.string name)) (hd : w.cell? ⟨db, 0, none⟩ = some (.bool df)) (hnb : nb < w.heap.size ∧ nb ≠ ob) (hdb : db < w.heap.size ∧ db ≠ ob) (hZ : Z ob) :
    Dep 68 #[.pointer (some ⟨nb, 0, none⟩), .pointer (some ⟨db, 0, none⟩), .pointer (some ⟨ob, 0, none⟩)] ob Z w (fun s => s = []) (OutL ob Z) (stepL name df) (contL name df) := by
  refine ⟨enters_lookup, ?_, ?_⟩
  · intro s wx S v l xs hc ho hbut hrow hdat hS hl _
    have hz := hbut.size
    refine (lookup1_calls (S := S) (nb := nb) (db := db) (ob := ob) (name := name) (df := df) (v := v) (l := l) (xs := xs) ((World.cell?_of_block (a := ⟨nb, 0, none⟩) (hbut.block nb hnb.1 hnb.2)).trans hn)
      ((World.cell?_of_block (a := ⟨db, 0, none⟩) (hbut.block db hdb.1 hdb.2)).trans hd) (ho.1 hc) hrow hdat (fun b hb => ⟨(hS b hb).1, fun e => (hS b hb).2 (e ▸ hZ)⟩) ⟨by omega, hnb.2⟩ ⟨by omega, hdb.2⟩ (by omega)).mono ?_
    rintro e w' ⟨rfl, vo, xo, hv, hb, hni⟩
    refine ⟨rfl, ⟨fun e => ?_, fun e => ⟨S, _, vo, xo, hv, fun b hb' => ⟨by have := (hS b hb').1; have := hb.size; omega, (hS b hb').2⟩⟩⟩, hb⟩
    have := hv.var
    rw [hni e] at this
    exact this
  · intro s wx w' hc ho hb hz
    refine ⟨fun e => hb.trans (ho.1 e), fun e => absurd hc e⟩

/-- what Lookup answers -/
def foundP (r : List Fd) : Option Fd := match r with
  | [x] => some x
  | _ => none
def zeroF : Fd := ⟨0, ⟨#[]⟩, T0, [], false, false⟩
def FndRes (w : World) (Z : Nat → Prop) (r : List Fd) (e : Ending) (w' : World) : Prop :=
  ∃ cs : List Value, e = .returned (.tuple #[.agg cs.toArray, .bool (foundP r).isSome]) ∧ FdR w' (fun b => b < w'.heap.size ∧ ¬ Z b) ((foundP r).getD zeroF) cs ∧ Below w.heap.size w w'

theorem but_set7 (w : World) (g : Nat) (v0 v1 v2 v3 v4 v5 v6 : Value) : But (fun b => b = g) w (((((((w.setCell ⟨g, 0, none⟩ v0).setCell ⟨g, 1, none⟩ v1).setCell ⟨g, 2, none⟩ v2).setCell ⟨g, 3, none⟩ v3).setCell ⟨g, 4, none⟩ v4).setCell ⟨g, 5, none⟩ v5).setCell ⟨g, 6, none⟩ v6) := by
  have e0 : But (fun b => b = g) w w := But.refl _ _
  have e1 := e0.set_ (p := ⟨g, 0, none⟩) (.inr rfl) v0
  have e2 := e1.set_ (p := ⟨g, 1, none⟩) (.inr rfl) v1
  have e3 := e2.set_ (p := ⟨g, 2, none⟩) (.inr rfl) v2
  have e4 := e3.set_ (p := ⟨g, 3, none⟩) (.inr rfl) v3
  have e5 := e4.set_ (p := ⟨g, 4, none⟩) (.inr rfl) v4
  have e6 := e5.set_ (p := ⟨g, 5, none⟩) (.inr rfl) v5
  exact e6.set_ (p := ⟨g, 6, none⟩) (.inr rfl) v6
theorem but_set12 (w : World) (g : Nat) (v0 v1 v2 v3 v4 v5 v6 v7 v8 v9 v10 v11 : Value) : But (fun b => b = g) w ((((((((((((w.setCell ⟨g, 0, none⟩ v0).setCell ⟨g, 1, none⟩ v1).setCell ⟨g, 2, none⟩ v2).setCell ⟨g, 3, none⟩ v3).setCell ⟨g, 4, none⟩ v4).setCell ⟨g, 5, none⟩ v5).setCell ⟨g, 6, none⟩ v6).setCell ⟨g, 7, none⟩ v7).setCell ⟨g, 8, none⟩ v8).setCell ⟨g, 9, none⟩ v9).setCell ⟨g, 10, none⟩ v10).setCell ⟨g, 11, none⟩ v11) := by
  have e6 := but_set7 w g v0 v1 v2 v3 v4 v5 v6
  have e7 := e6.set_ (p := ⟨g, 7, none⟩) (.inr rfl) v7
  have e8 := e7.set_ (p := ⟨g, 8, none⟩) (.inr rfl) v8
  have e9 := e8.set_ (p := ⟨g, 9, none⟩) (.inr rfl) v9
  have e10 := e9.set_ (p := ⟨g, 10, none⟩) (.inr rfl) v10
  exact e10.set_ (p := ⟨g, 11, none⟩) (.inr rfl) v11
theorem zeroF_cells (w : World) (S : Nat → Prop) : FdR w S zeroF [.int .i64 0, .string ⟨#[]⟩, .int .i64 0, .string ⟨#[]⟩, .int .i64 0, .bool false, .slice none 0 0, .slice none 0 0, .slice none 0 0, .slice none 0 0, .bool false, .bool false] :=
  ⟨zero7, .slice none 0 0, rfl, T0_cells w S, Row.nil_⟩
set_option maxHeartbeats 4000000 in
set_option maxRecDepth 100000 in
theorem lookup_calls {L : List Nd} {U : T → T} {g n : Nat} {w : World} {S Sw Z : Nat → Prop} {t : T} {cs : List Value} {name : ByteArray} {r : List Fd} (h : WC w Sw g L) (hU : UndF L U) (ht : TyR w S t cs) (hok : t.ok) (hS : ∀ b, S b → b < w.heap.size ∧ ¬ Z b) (hZ : ∀ b, Z b → b < w.heap.size)
    (hr : RunR L U (stepL name (lookedP U t).2) (contL name (lookedP U t).2) (fun s => s = []) n [] [((lookedP U t).1, [])] [] r) :
    Calls Try.prog 32 #[.pointer (some ⟨g, 0, none⟩), .agg cs.toArray, .string name] w (FndRes w Z r) := by
  obtain ⟨A1, c1, A2, c2, A3, c3, rfl, -⟩ := ht.forms
  have H := Lib.hid h
  have HU := Lib.hid hU
  have HT := Lib.hid ht
  have HK := Lib.hid hok
  have HS := Lib.hid hS
  have HZ := Lib.hid hZ
  have HR := Lib.hid hr
  clear h hU ht hok hS hr hZ
  go_enter Try.func32, Try.ntmps32
  go_wp2_with fail
  refine (looked_calls (L := L) (U := U) (S := Sw) (S' := S) (t := t) (cs := [.int .i64 t.kd, .string t.nm, .int .i64 t.n, .bool t.fl, .slice A1 t.ns.length c1, .slice A2 t.ms.length c2, .slice A3 t.ks.length c3]) (((H.out.alloc _).alloc _).alloc _) HU.out (HT.out.keep (SameOn.of_below (((below_al _ _).alloc (by simp) _).alloc (by simp; omega) _) fun b hb => (HS.out b hb).1) fun _ h => h) (fun b hb => by have := (HS.out b hb).1; simp; omega) HK.out).mono ?_
  rintro e w1 ⟨ds, rfl, hd, hdk, hb1⟩
  obtain ⟨B1, d1, B2, d2, B3, d3, rfl, -⟩ := hd.forms
  have hz1 := hb1.size
  simp at hz1
  obtain ⟨x, hx⟩ : ∃ x, (lookedP U t).1 = x := ⟨_, rfl⟩
  obtain ⟨df, hdf⟩ : ∃ df, (lookedP U t).2 = df := ⟨_, rfl⟩
  rw [hx] at hd hdk ⊢
  rw [hdf] at ⊢
  have HRR : Hid (RunR L U (stepL name df) (contL name df) (fun s => s = []) n [] [(x, [])] [] r) := by have := HR.out; rw [hx, hdf] at this; exact this
  have HD : Hid (TyR w1 (fun b => b < w1.heap.size ∧ ¬ Z b ∧ b ≠ w.heap.size ∧ b ≠ w.heap.size + 1 ∧ b ≠ w.heap.size + 2) x [.int .i64 x.kd, .string x.nm, .int .i64 x.n, .bool x.fl, .slice B1 x.ns.length d1, .slice B2 x.ms.length d2, .slice B3 x.ks.length d3]) := by
    refine hd.keep (SameOn.refl _ _) fun b hb => ?_
    rcases hb with hb | hb
    · have := HS.out b hb; exact ⟨by omega, this.2, by omega, by omega, by omega⟩
    · have h1 := hb.1
      have h2 := hb.2
      simp at h1
      exact ⟨h2, fun e => by have := HZ.out b e; omega, by omega, by omega, by omega⟩
  have HDK := Lib.hid hdk
  have HX1 : Hid (Below w.heap.size w w1) := (((below_al _ _).alloc (by simp) _).alloc (by simp; omega) _).trans (hb1.mono (by simp; omega))
  have HB0 : Hid (Blk w1 w.heap.size 26 #[.int .i64 t.kd, .string t.nm, .int .i64 t.n, .bool t.fl, .slice A1 t.ns.length c1, .slice A2 t.ms.length c2, .slice A3 t.ks.length c3]) := (((Blk.new w _ _).alloc _).alloc _).below hb1 (by simp; omega)
  have HB1 : Hid (Blk w1 (w.heap.size + 1) 9 #[.string name]) := by
    refine Blk.below (Blk.alloc ?_ _) hb1 (by simp)
    simpa using Blk.new (w.alloc _) 9 #[.string name]
  have HB2 : Hid (Blk w1 (w.heap.size + 2) 58 #[.int .i64 0, .string ⟨#[]⟩, .int .i64 0, .string ⟨#[]⟩, .int .i64 0, .bool false, .slice none 0 0, .slice none 0 0, .slice none 0 0, .slice none 0 0, .bool false, .bool false]) := by
    refine Blk.below ?_ hb1 (by simp)
    simpa using Blk.new ((w.alloc _).alloc _) 58 #[.int .i64 0, .string ⟨#[]⟩, .int .i64 0, .string ⟨#[]⟩, .int .i64 0, .bool false, .slice none 0 0, .slice none 0 0, .slice none 0 0, .slice none 0 0, .bool false, .bool false]
  clear hd hdk hb1 hx hdf HR
  obtain ⟨k0, k1, k2, k3, k4, k5, k6, kf⟩ := HB0.out.cells7
  have hl0 : w.heap.size < w1.heap.size := by omega
  go_wp2_with fail
  obtain ⟨w7, hw7⟩ : ∃ w7, w7 = (((((((w1.setCell ⟨w.heap.size, 0, none⟩ (.int .i64 x.kd)).setCell ⟨w.heap.size, 1, none⟩ (.string x.nm)).setCell ⟨w.heap.size, 2, none⟩ (.int .i64 x.n)).setCell ⟨w.heap.size, 3, none⟩ (.bool x.fl)).setCell ⟨w.heap.size, 4, none⟩ (.slice B1 x.ns.length d1)).setCell ⟨w.heap.size, 5, none⟩ (.slice B2 x.ms.length d2)).setCell ⟨w.heap.size, 6, none⟩ (.slice B3 x.ks.length d3)) := ⟨_, rfl⟩
  rw [← hw7]
  have hbut7 : But (fun b => b = w.heap.size) w1 w7 := by rw [hw7]; exact but_set7 _ _ _ _ _ _ _ _ _
  have hz7 : w7.heap.size = w1.heap.size := by rw [hw7]; simp
  obtain ⟨w2, hw2⟩ : ∃ w2, w2 = (w7.alloc (.cells #[.bool df] 4)).alloc (.cells #[.slice none 0 0] 91) := ⟨_, rfl⟩
  rw [← hw2]
  have hz2 : w2.heap.size = w1.heap.size + 2 := by rw [hw2]; simp [hz7]
  have hbut2 : But (fun b => b = w.heap.size) w1 w2 := by rw [hw2]; exact (hbut7.alloc _).alloc _
  have HX2 : Hid (Below w.heap.size w w2) := HX1.out.trans (hbut2.below (fun i _ e => by omega) (by omega))
  have HDB : Hid (Blk w2 w1.heap.size 4 #[.bool df]) := by
    have := (Blk.new w7 4 #[.bool df]).alloc (.cells #[.slice none 0 0] 91)
    rw [hz7] at this
    rw [hw2]
    exact this
  have HOB : Hid (Blk w2 (w1.heap.size + 1) 91 #[.slice none 0 0]) := by
    have := Blk.new (w7.alloc (.cells #[.bool df] 4)) 91 #[.slice none 0 0]
    simp [hz7] at this
    rw [hw2]
    exact this
  have HNB : Hid (Blk w2 (w.heap.size + 1) 9 #[.string name]) := (hbut2.block _ (by omega) (by omega)).trans HB1.out
  have HRB : Hid (Blk w2 (w.heap.size + 2) 58 #[.int .i64 0, .string ⟨#[]⟩, .int .i64 0, .string ⟨#[]⟩, .int .i64 0, .bool false, .slice none 0 0, .slice none 0 0, .slice none 0 0, .slice none 0 0, .bool false, .bool false]) := (hbut2.block _ (by omega) (by omega)).trans HB2.out
  have HD2 : Hid (TyR w2 (fun b => b < w1.heap.size ∧ ¬ Z b ∧ b ≠ w.heap.size ∧ b ≠ w.heap.size + 1 ∧ b ≠ w.heap.size + 2) x [.int .i64 x.kd, .string x.nm, .int .i64 x.n, .bool x.fl, .slice B1 x.ns.length d1, .slice B2 x.ms.length d2, .slice B3 x.ks.length d3]) := HD.out.keep (hbut2.sameOn fun b hb => ⟨hb.1, hb.2.2.1⟩) fun _ h => h
  clear hw7 hz7 hw2 hbut7 hbut2 HD HB0 HB1 HB2 k0 k1 k2 k3 k4 k5 k6 kf
  have HDEP := Lib.hid (dep_lookup (w := w2) (nb := w.heap.size + 1) (db := w1.heap.size) (ob := w1.heap.size + 1) (name := name) (df := df) (Z := fun b => Z b ∨ b = w.heap.size + 2 ∨ b = w1.heap.size + 1) (HNB.out.cell 0) (HDB.out.cell 0) ⟨by omega, by omega⟩ ⟨by omega, by omega⟩ (.inr (.inr rfl)))
  have HO0 : Hid (OutL (w1.heap.size + 1) (fun b => Z b ∨ b = w.heap.size + 2 ∨ b = w1.heap.size + 1) [] w2) := ⟨fun _ => HOB.out, fun e => absurd rfl e⟩
  refine (rows_calls (L := L) (U := U) (t := x) (n := n) (S := (fun b => b < w1.heap.size ∧ ¬ Z b ∧ b ≠ w.heap.size ∧ b ≠ w.heap.size + 1 ∧ b ≠ w.heap.size + 2)) (cs := [.int .i64 x.kd, .string x.nm, .int .i64 x.n, .bool x.fl, .slice B1 x.ns.length d1, .slice B2 x.ms.length d2, .slice B3 x.ks.length d3]) HDEP.out (H.out.below HX2.out) HU.out HD2.out HDK.out (fun b hb => ⟨by have := hb.1; omega, ?_⟩) (fun b hb => ?_) (.inr (.inr rfl)) (fun b hb => by have := H.out.old b hb; omega) rfl HO0.out (by omega) HRR.out).mono ?_
  · intro e
    have h1 := hb.1
    exact e.elim hb.2.1 fun e => e.elim hb.2.2.2.2 fun e => by omega
  · rcases hb with hb | hb | hb
    · have := HZ.out b hb; omega
    · omega
    · omega
  rintro e w3 ⟨rfl, hout, hbut⟩
  have hz3 := hbut.size
  have HRB3 : Hid (Blk w3 (w.heap.size + 2) 58 #[.int .i64 0, .string ⟨#[]⟩, .int .i64 0, .string ⟨#[]⟩, .int .i64 0, .bool false, .slice none 0 0, .slice none 0 0, .slice none 0 0, .slice none 0 0, .bool false, .bool false]) := (hbut.block _ (by omega) (by omega)).trans HRB.out
  have HX3 : Hid (Below w.heap.size w w3) := HX2.out.trans (hbut.below (fun i _ e => by omega) (by omega))
  have HOUT := Lib.hid hout
  obtain ⟨vo, hvo, A, c, rfl⟩ : ∃ vo, Blk w3 (w1.heap.size + 1) 91 #[vo] ∧ ∃ A c, vo = .slice A r.length c := by
    by_cases he : r = []
    · exact ⟨_, hout.1 he, none, 0, by rw [he]; rfl⟩
    · obtain ⟨S', B', vo, xo, hv, _⟩ := hout.2 he
      exact ⟨vo, hv.var, own_form hv.own⟩
  have HVO := Lib.hid hvo
  have hc9 : w3.cell? ⟨w1.heap.size + 1, 0, none⟩ = _ := hvo.cell 0
  have hob3 : w1.heap.size + 1 < w3.heap.size := by omega
  have hrb3 : w.heap.size + 1 + 1 < w3.heap.size := by omega
  obtain ⟨r0, r1, r2, r3, r4, r5, r6, r7, r8, r9, r10, r11⟩ : w3.cell? ⟨w.heap.size + 1 + 1, 0, none⟩ = _ ∧ w3.cell? ⟨w.heap.size + 1 + 1, 1, none⟩ = _ ∧ w3.cell? ⟨w.heap.size + 1 + 1, 2, none⟩ = _ ∧ w3.cell? ⟨w.heap.size + 1 + 1, 3, none⟩ = _ ∧ w3.cell? ⟨w.heap.size + 1 + 1, 4, none⟩ = _ ∧ w3.cell? ⟨w.heap.size + 1 + 1, 5, none⟩ = _ ∧ w3.cell? ⟨w.heap.size + 1 + 1, 6, none⟩ = _ ∧ w3.cell? ⟨w.heap.size + 1 + 1, 7, none⟩ = _ ∧ w3.cell? ⟨w.heap.size + 1 + 1, 8, none⟩ = _ ∧ w3.cell? ⟨w.heap.size + 1 + 1, 9, none⟩ = _ ∧ w3.cell? ⟨w.heap.size + 1 + 1, 10, none⟩ = _ ∧ w3.cell? ⟨w.heap.size + 1 + 1, 11, none⟩ = _ :=
    ⟨HRB3.out.cell 0, HRB3.out.cell 1, HRB3.out.cell 2, HRB3.out.cell 3, HRB3.out.cell 4, HRB3.out.cell 5, HRB3.out.cell 6, HRB3.out.cell 7, HRB3.out.cell 8, HRB3.out.cell 9, HRB3.out.cell 10, HRB3.out.cell 11⟩
  have rf := HRB3.out.frozen
  clear hout hbut hvo HDEP HO0 HOB HNB HRB HDB
  by_cases h1 : r.length = 1
  · obtain ⟨y, rfl⟩ : ∃ y, r = [y] := by
      rcases r with _ | ⟨y, _ | ⟨z, l⟩⟩
      · simp at h1
      · exact ⟨y, rfl⟩
      · simp at h1
    have hb1 : ((([y] : List Fd).length : Int) != 1) = false := by simp
    obtain ⟨S3, B3', vo, xo, hv, hS3⟩ := HOUT.out.2 (by simp)
    have hvv := (hv.var.cell 0).symm.trans hc9
    simp only [List.getElem?_toArray, List.getElem?_cons_zero, Option.some.injEq] at hvv
    subst hvv
    obtain ⟨b, o, cap, cs', hvb, hSb, hfd, hcc⟩ := row_all_at (Row.of_own (S := fun b => b < w3.heap.size) hv.own fun b hb => (hv.own.lt b hb).2) hv.data (k := 12) (fun _ _ h => h.len) (i := 0) (by simp)
    simp only [Value.slice.injEq] at hvb
    obtain ⟨rfl, -, rfl⟩ := hvb
    simp only [List.getElem_cons_zero] at hfd
    have HFD := Lib.hid hfd
    obtain ⟨F1, f1, F2, f2, F3, f3, F4, f4, rfl, -⟩ := hfd.forms
    have HS3 := Lib.hid hS3
    have q0 : w3.cell? ⟨b, o, none⟩ = _ := hcc 0 _ rfl
    have q1 : w3.cell? ⟨b, o + 1, none⟩ = _ := hcc 1 _ rfl
    have q2 : w3.cell? ⟨b, o + 2, none⟩ = _ := hcc 2 _ rfl
    have q3 : w3.cell? ⟨b, o + 3, none⟩ = _ := hcc 3 _ rfl
    have q4 : w3.cell? ⟨b, o + 4, none⟩ = _ := hcc 4 _ rfl
    have q5 : w3.cell? ⟨b, o + 5, none⟩ = _ := hcc 5 _ rfl
    have q6 : w3.cell? ⟨b, o + 6, none⟩ = _ := hcc 6 _ rfl
    have q7 : w3.cell? ⟨b, o + 7, none⟩ = _ := hcc 7 _ rfl
    have q8 : w3.cell? ⟨b, o + 8, none⟩ = _ := hcc 8 _ rfl
    have q9 : w3.cell? ⟨b, o + 9, none⟩ = _ := hcc 9 _ rfl
    have q10 : w3.cell? ⟨b, o + 10, none⟩ = _ := hcc 10 _ rfl
    have q11 : w3.cell? ⟨b, o + 11, none⟩ = _ := hcc 11 _ rfl
    have hbl : b < w3.heap.size := hSb
    clear hv hS3 hfd hcc h1 HOUT HVO hSb
    go_wp2_with fail
    refine bodyPost_ret (v := .tuple #[.agg #[.int .i64 y.kd, .string y.ow, .int .i64 y.ty.kd, .string y.ty.nm, .int .i64 y.ty.n, .bool y.ty.fl, .slice F1 y.ty.ns.length f1, .slice F2 y.ty.ms.length f2, .slice F3 y.ty.ks.length f3, .slice F4 y.pa.length f4, .bool y.p, .bool y.df], .bool true]) (by simp [results, Try.results32, go_sem, r0, r1, r2, r3, r4, r5, r6, r7, r8, r9, r10, r11]) rfl ⟨_, rfl, HFD.out.keep ((but_set12 _ _ _ _ _ _ _ _ _ _ _ _ _ _).sameOn fun b hb => ⟨(HS3.out b hb).1, fun e => (HS3.out b hb).2 (.inr (.inl e))⟩) (fun b hb => ⟨by simp; exact (HS3.out b hb).1, fun e => (HS3.out b hb).2 (.inl e)⟩), ?_⟩
    exact HX3.out.trans ((but_set12 _ _ _ _ _ _ _ _ _ _ _ _ _ _).below (fun i _ e => by omega) (by omega))
  · have hb1 : ((r.length : Int) != 1) = true := by simp; omega
    have HFP : Hid (foundP r = none) := by
      rcases r with _ | ⟨y, _ | ⟨z, l⟩⟩
      · rfl
      · exact absurd rfl h1
      · rfl
    clear h1
    go_wp2_with fail
    refine bodyPost_ret (v := .tuple #[.agg #[.int .i64 0, .string ⟨#[]⟩, .int .i64 0, .string ⟨#[]⟩, .int .i64 0, .bool false, .slice none 0 0, .slice none 0 0, .slice none 0 0, .slice none 0 0, .bool false, .bool false], .bool false]) (by simp [results, Try.results32, go_sem, r0, r1, r2, r3, r4, r5, r6, r7, r8, r9, r10, r11]) rfl ⟨_, by rw [HFP.out]; rfl, by rw [HFP.out]; exact zeroF_cells _ _, ?_⟩
    exact HX3.out.trans ((but_set12 _ _ _ _ _ _ _ _ _ _ _ _ _ _).below (fun i _ e => by omega) (by omega))
end Go.Proofs.Ytanhdklaponekaa
