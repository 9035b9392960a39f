/- types.World.Named, under, Under of a world in memory. -/
import Derived.Test.YtanhdklaponekaaWdN
namespace Go.Proofs.Ytanhdklaponekaa
open Go Go.RowKit

/-- what a type is underneath, by fuel -/
def undr (L : List Nd) : Nat → T → Option T
  | 0, _ => none
  | n + 1, t => if t.kd = 8 then (match look L t.nm with | none => some t | some d => undr L n d.un) else some t
/-- U says it for every type -/
def UndF (L : List Nd) (U : T → T) : Prop := ∀ t, ∃ n, undr L n t = some (U t)

/-- a world, whole -/
structure WC (w : World) (S : Nat → Prop) (g : Nat) (L : List Nd) : Prop where
  wld : WldR w S g L
  old : Old S w
  ok : ∀ d ∈ L, d.ok
theorem WC.same {w w' : World} {S : Nat → Prop} {g : Nat} {L : List Nd} (h : WC w S g L) (hs : SameOn S w w') (hz : w.heap.size ≤ w'.heap.size) : WC w' S g L :=
  ⟨h.wld.keep hs (fun _ h => h), fun b hb => Nat.lt_of_lt_of_le (h.old b hb) hz, h.ok⟩
theorem WC.below {w w' : World} {S : Nat → Prop} {g : Nat} {L : List Nd} (h : WC w S g L) (hb : Below w.heap.size w w') : WC w' S g L := h.same (SameOn.of_below hb h.old) hb.size
theorem WC.alloc {w : World} {S : Nat → Prop} {g : Nat} {L : List Nd} (h : WC w S g L) (o : Obj) : WC (w.alloc o) S g L := h.below ((Below.refl _ _).alloc (Nat.le_refl _) o)
theorem below_al (w : World) (o : Obj) : Below w.heap.size w (w.alloc o) := (Below.refl _ _).alloc (Nat.le_refl _) o

set_option maxHeartbeats 1000000 in
theorem wnamed_calls {L : List Nd} {nm : ByteArray} {g : Nat} {w : World} {S : Nat → Prop} (h : WC w S g L) (hnm : nm.size ≤ Lim) :
    Calls Try.prog 23 #[.pointer (some ⟨g, 0, none⟩), .string nm] w (NdRes w (lookD L nm) (look L nm).isSome) := by
  have H : ∀ o, Hid (WC (w.alloc o) S g L) := fun o => h.alloc o
  obtain ⟨⟨hg, gt, b, hgt, c1, c2, hb, ht⟩, hS, hL⟩ := h
  have hc1 : ∀ o, (w.alloc o).cell? ⟨g, 0, none⟩ = some (.pointer (some ⟨gt, 0, none⟩)) := fun o => (cell_below (below_al w o) (hS g hg)).trans c1
  have hc2 : ∀ o, Hid ((w.alloc o).cell? ⟨gt, 0, none⟩ = some (.map (some b))) := fun o => (cell_below (below_al w o) (hS gt hgt)).trans c2
  have HT := Lib.hid ht
  have hgl := hS gt hgt
  have hbl := hS b hb
  have HS := Lib.hid hS
  have HL := Lib.hid hL
  clear ht hS hL c1 c2
  obtain ⟨ok, hok⟩ : ∃ ok, (look L nm).isSome = ok := ⟨_, rfl⟩
  obtain ⟨d, hd⟩ : ∃ d, lookD L nm = d := ⟨_, rfl⟩
  rw [hok, hd]
  have HOK := Lib.hid hok
  have HD := Lib.hid hd
  clear hok hd
  go_enter Try.func23, Try.ntmps23
  go_wp2_with fail
  refine (tnamed_calls (b := b) (S := S) (L := L) (by simp; omega) (by simp; omega) (HS.out.alloc _) HL.out hnm ((hc2 _).out) (HT.out.keep (Below.heap_alloc _ _ _ hbl) ((SameOn.refl _ _).alloc HS.out _) (fun _ h => h))).mono ?_
  rintro e w1 ⟨cs, rfl, hn, hb1⟩
  rw [HOK.out]
  rw [HD.out] at hn
  obtain ⟨A1, c1, A2, c2, A3, c3, A4, c4, rfl, -⟩ := hn.forms
  have hz1 := hb1.size
  simp at hz1
  have HN := Lib.hid hn
  have HB : Hid (Below w.heap.size w w1) := (below_al _ _).trans (hb1.mono (by simp))
  obtain ⟨r0, r1, r2, r3, r4, r5, r6, r7, r8, rf⟩ := Blk.cells9 ((Blk.new w _ _).below hb1 (by simp))
  have hl : w.heap.size < w1.heap.size := by omega
  clear hn hb1
  go_wp2_with fail
  refine bodyPost_ret (v := .tuple #[.agg #[.string d.nm, .int .i64 d.un.kd, .string d.un.nm, .int .i64 d.un.n, .bool d.un.fl, .slice A1 d.un.ns.length c1, .slice A2 d.un.ms.length c2, .slice A3 d.un.ks.length c3, .slice A4 d.ms.length c4], .bool ok]) (by simp [results, Try.results23, go_sem, r0, r1, r2, r3, r4, r5, r6, r7, r8]) rfl ⟨_, rfl, ?_, ?_⟩
  · refine HN.out.keep ?_ (fun b hb => ⟨by have := hb.1; simp at this; omega, by have := hb.2; simpa using this⟩)
    repeat (refine SameOn.set_ ?_ (fun h => by have := h.1; simp at this; omega) _)
    exact SameOn.refl _ _
  · repeat (refine Below.setCell ?_ (by simp) _)
    exact HB.out

theorem blk_set7 {w : World} {g : Nat} {t : TypeId} {c0 c1 c2 c3 c4 c5 c6 : Value} (h : Blk w g t #[c0, c1, c2, c3, c4, c5, c6]) (d0 d1 d2 d3 d4 d5 d6 : Value) :
    Blk (((((((w.setCell ⟨g, 0, none⟩ d0).setCell ⟨g, 1, none⟩ d1).setCell ⟨g, 2, none⟩ d2).setCell ⟨g, 3, none⟩ d3).setCell ⟨g, 4, none⟩ d4).setCell ⟨g, 5, none⟩ d5).setCell ⟨g, 6, none⟩ d6) g t #[d0, d1, d2, d3, d4, d5, d6] := by
  simpa using ((((((h.set_ 0 d0).set_ 1 d1).set_ 2 d2).set_ 3 d3).set_ 4 d4).set_ 5 d5).set_ 6 d6
theorem SameOn.symm {S : Nat → Prop} {a b : World} (h : SameOn S a b) : SameOn S b a := fun k hk => (h k hk).symm
/-- a type that lies in the blocks of S -/
def OldT (w : World) (S : Nat → Prop) (t : T) (e : Ending) (w' : World) : Prop := ∃ cs : List Value, e = .returned (.agg cs.toArray) ∧ TyR w' S t cs ∧ Below w.heap.size w w'

attribute [local go_sem ↓] Go.wp_at_zero Go.wp_at_succ
set_option maxHeartbeats 4000000 in
set_option maxRecDepth 100000 in
theorem under_calls {L : List Nd} {g : Nat} {w : World} {S : Nat → Prop} {t r : T} {n : Nat} {cs : List Value} (h : WC w S g L) (ht : TyR w S t cs) (hok : t.ok) (hr : undr L n t = some r) :
    Calls Try.prog 55 #[.pointer (some ⟨g, 0, none⟩), .agg cs.toArray] w fun e w' => OldT w S r e w' ∧ r.ok := by
  obtain ⟨A1, c1, A2, c2, A3, c3, rfl, -⟩ := ht.forms
  have HT := Lib.hid ht
  have H := Lib.hid h
  have HR := Lib.hid hr
  have HK := Lib.hid hok
  clear ht h hr hok
  go_enter Try.func55, Try.ntmps55
  go_wp2_with fail
  go_loopg [6] n (fun dd _ wr => ∃ (d : Nat) (t : T) (A1 : Option Addr) (c1 : Nat) (A2 : Option Addr) (c2 : Nat) (A3 : Option Addr) (c3 : Nat), d = dd ∧ Hid (undr L d t = some r) ∧ Hid t.ok ∧
    Hid (TyR w S t [.int .i64 t.kd, .string t.nm, .int .i64 t.n, .bool t.fl, .slice A1 t.ns.length c1, .slice A2 t.ms.length c2, .slice A3 t.ks.length c3]) ∧
    Hid (Blk wr w.heap.size 26 #[.int .i64 t.kd, .string t.nm, .int .i64 t.n, .bool t.fl, .slice A1 t.ns.length c1, .slice A2 t.ms.length c2, .slice A3 t.ks.length c3] ∧ Blk wr (w.heap.size + 1) 26 zero7.toArray) ∧ Hid (Below w.heap.size w wr))
  case atStart =>
    refine ⟨n, t, A1, c1, A2, c2, A3, c3, rfl, HR, HK, HT, ⟨(Blk.new _ _ _).alloc _, ?_⟩, (below_al _ _).alloc (by simp) _⟩
    simpa [zero7] using Blk.new (w.alloc _) _ _
  case round =>
    obtain ⟨d, t, A1, c1, A2, c2, A3, c3, rfl, HR, HK, HT, HB, HBL⟩ := hrel
    obtain ⟨g0, g1, g2, g3, g4, g5, g6, gf⟩ := HB.out.1.cells7
    obtain ⟨k0, k1, k2, k3, k4, k5, k6, kf⟩ := HB.out.2.cells7
    have hlt := HB.out.2.lt
    have hlt1 : w.heap.size < wr.heap.size := by omega
    have HW : Hid (WC wr S g L) := H.out.below HBL.out
    obtain ⟨⟨hg, gt, b, hgt, e1, e2, hb, htab⟩, hS, hL⟩ := HW.out
    have hgl := hS g hg
    have hgtl := hS gt hgt
    cases d with
    | zero => exact absurd HR.out (by simp [undr])
    | succ d =>
    have hrr := HR.out
    unfold undr at hrr
    by_cases h8 : t.kd = 8
    · rw [if_pos h8] at hrr
      have hb8 : (t.kd == 8) = true := by simpa using h8
      clear h8
      have hnm : t.nm.size ≤ Lim := by
        have := HK.out
        obtain ⟨k, nm, n, f, ns, ms, ks⟩ := t
        exact this.2.2.1
      obtain ⟨D1, u1, D2, u2, D3, u3, D4, u4, hnd, hlk, -⟩ := htab.looks hnm
      have hl1 := hlk wr.drew rfl
      have hl2 := fun o => hlk (wr.alloc o).drew (Below.heap_alloc wr o _ (hS b hb))
      have HND : Hid (TyR w S (lookD L t.nm).un [.int .i64 (lookD L t.nm).un.kd, .string (lookD L t.nm).un.nm, .int .i64 (lookD L t.nm).un.n, .bool (lookD L t.nm).un.fl, .slice D1 (lookD L t.nm).un.ns.length u1, .slice D2 (lookD L t.nm).un.ms.length u2, .slice D3 (lookD L t.nm).un.ks.length u3]) := by
        obtain ⟨ct, vm, e, h, _⟩ := hnd
        obtain ⟨B1, k1, B2, k2, B3, k3, rfl, _⟩ := h.forms
        simp only [List.cons_append, List.nil_append, List.cons.injEq] at e
        obtain ⟨-, -, -, -, -, e1, e2, e3, -⟩ := e
        rw [e1, e2, e3]
        exact h.keep (SameOn.symm (SameOn.of_below HBL.out H.out.old)) (fun _ h => h)
      have HDK : Hid (lookD L t.nm).ok := lookD_ok hL t.nm
      cases hlo : look L t.nm with
      | none =>
        rw [hlo] at hrr hl1 hl2
        simp only [Option.isSome_none, Option.some.injEq] at hrr hl1 hl2
        clear hnd hlk htab hS hL hlo
        have HRR := Lib.hid hrr
        clear hrr
        go_wp2_with fail
        go_region
        all_goals
          go_wp2_with fail
          refine bodyPost_ret (v := .agg #[.int .i64 t.kd, .string t.nm, .int .i64 t.n, .bool t.fl, .slice A1 t.ns.length c1, .slice A2 t.ms.length c2, .slice A3 t.ks.length c3]) (by simp [results, Try.results55, go_sem, k0, k1, k2, k3, k4, k5, k6, hlt]) rfl ⟨⟨_, rfl, ?_, ?_⟩, ?_⟩
          · rw [← HRR.out]
            refine HT.out.keep (SameOn.of_below ?_ H.out.old) (fun _ h => h)
            refine (Below.alloc ?_ (by simp; omega) _).drew
            repeat (refine Below.setCell ?_ (by simp) _)
            exact HBL.out
          · refine (Below.alloc ?_ (by simp; omega) _).drew
            repeat (refine Below.setCell ?_ (by simp) _)
            exact HBL.out
          · rw [← HRR.out]; exact HK.out
      | some d' =>
        have hdd : lookD L t.nm = d' := by unfold lookD; rw [hlo]; rfl
        rw [hlo] at hrr hl1 hl2
        rw [hdd] at hl1 hl2 HND HDK
        simp only [Option.isSome_some] at hrr hl1 hl2
        clear hnd hlk htab hS hL hlo hdd
        have HRR := Lib.hid hrr
        clear hrr
        go_wp2_with fail
        go_region
        all_goals
          go_wp2_with fail
          go_roundg d
          case measure => omega
          case rel =>
            refine ⟨d, d'.un, D1, u1, D2, u2, D3, u3, rfl, HRR, HDK.out.2.1, HND, ⟨?_, ?_⟩, ?_⟩
            · exact ((blk_set7 HB.out.1 _ _ _ _ _ _ _).alloc _).drew
            · refine (Blk.alloc ?_ _).drew
              repeat (refine Blk.far ?_ (by simp) _)
              exact HB.out.2
            · refine (Below.alloc ?_ (by simp; omega) _).drew
              repeat (refine Below.setCell ?_ (by simp) _)
              exact HBL.out
    · rw [if_neg h8] at hrr
      simp only [Option.some.injEq] at hrr
      have hb8 : (t.kd == 8) = false := by simpa using h8
      have HRR := Lib.hid hrr
      clear h8 hrr htab hS hL
      go_wp2_with fail
      refine bodyPost_ret (v := .agg #[.int .i64 t.kd, .string t.nm, .int .i64 t.n, .bool t.fl, .slice A1 t.ns.length c1, .slice A2 t.ms.length c2, .slice A3 t.ks.length c3]) (by simp [results, Try.results55, go_sem, k0, k1, k2, k3, k4, k5, k6]) rfl ⟨⟨_, rfl, ?_, ?_⟩, ?_⟩
      · rw [← HRR.out]
        refine HT.out.keep (SameOn.of_below ?_ H.out.old) (fun _ h => h)
        repeat (refine Below.setCell ?_ (by simp) _)
        exact HBL.out
      · repeat (refine Below.setCell ?_ (by simp) _)
        exact HBL.out
      · rw [← HRR.out]; exact HK.out

set_option maxHeartbeats 1000000 in
set_option maxRecDepth 100000 in
/-- types.World.Under: in memory of its own -/
theorem wunder_calls {L : List Nd} {g : Nat} {w : World} {S S' : Nat → Prop} {t r : T} {n : Nat} {cs : List Value} (h : WC w S g L) (ht : TyR w S' t cs) (hS' : Old S' w) (hok : t.ok) (hr : undr L n t = some r) :
    Calls Try.prog 24 #[.pointer (some ⟨g, 0, none⟩), .agg cs.toArray] w fun e w' => TRes w r e w' ∧ r.ok := by
  have ht2 : TyR w (fun b => S b ∨ S' b) t cs := ht.keep (SameOn.refl _ _) (fun _ h => .inr h)
  have h2 : WC w (fun b => S b ∨ S' b) g L := ⟨h.wld.keep (SameOn.refl _ _) (fun _ h => .inl h), fun b hb => hb.elim (h.old b) (hS' b), h.ok⟩
  obtain ⟨A1, c1, A2, c2, A3, c3, rfl, -⟩ := ht2.forms
  have HT := Lib.hid ht2
  have H := Lib.hid h2
  have HR := Lib.hid hr
  have HK := Lib.hid hok
  clear ht h hr hok hS' h2 ht2
  go_enter Try.func24, Try.ntmps24
  go_wp2_with fail
  refine (under_calls (L := L) (S := fun b => S b ∨ S' b) (t := t) (cs := [.int .i64 t.kd, .string t.nm, .int .i64 t.n, .bool t.fl, .slice A1 t.ns.length c1, .slice A2 t.ms.length c2, .slice A3 t.ks.length c3]) ((H.out.alloc _).alloc _) (HT.out.keep (SameOn.of_below ((below_al _ _).alloc (by simp) _) H.out.old) (fun _ h => h)) HK.out HR.out).mono ?_
  rintro e w1 ⟨⟨ds, rfl, hd, hb1⟩, hrk⟩
  obtain ⟨B1, d1, B2, d2, B3, d3, rfl, -⟩ := hd.forms
  have hz1 := hb1.size
  simp at hz1
  have HD := Lib.hid hd
  have HX : Hid (Below w.heap.size w w1) := ((below_al _ _).alloc (by simp) _).trans (hb1.mono (by simp; omega))
  have HB2 : Hid (Blk w1 (w.heap.size + 1) 26 #[.int .i64 0, .string ⟨#[]⟩, .int .i64 0, .bool false, .slice none 0 0, .slice none 0 0, .slice none 0 0]) := by
    refine Blk.below ?_ hb1 (by simp)
    simpa using Blk.new (w.alloc _) _ _
  have HRK := Lib.hid hrk
  clear hd hb1 hrk
  go_wp2_with fail
  refine (own_calls (S := fun b => S b ∨ S' b) (t := r) (cs := [.int .i64 r.kd, .string r.nm, .int .i64 r.n, .bool r.fl, .slice B1 r.ns.length d1, .slice B2 r.ms.length d2, .slice B3 r.ks.length d3]) HRK.out HD.out (H.out.old.below HX.out)).mono ?_
  rintro e w2 h2
  obtain ⟨E1, e1, E2, e2, E3, e3, rfl, ht2, hb2⟩ := h2.forms
  have hz2 := hb2.size
  have HT2 := Lib.hid ht2
  obtain ⟨n0, n1, n2, n3, n4, n5, n6, nf⟩ := (HB2.out.below hb2 (by omega)).cells7
  have HBW : Hid (Below w.heap.size w w2) := HX.out.trans (hb2.mono (by omega))
  have hl2 : w.heap.size + 1 < w2.heap.size := by omega
  clear h2 ht2 hb2
  go_wp2_with fail
  refine bodyPost_ret (v := .agg #[.int .i64 r.kd, .string r.nm, .int .i64 r.n, .bool r.fl, .slice E1 r.ns.length e1, .slice E2 r.ms.length e2, .slice E3 r.ks.length e3]) (by simp [results, Try.results24, go_sem, n0, n1, n2, n3, n4, n5, n6]) rfl ⟨⟨_, rfl, ?_, ?_⟩, HRK.out⟩
  · refine HT2.out.keep (S' := New w _) ?_ (fun b hb => ⟨by have := hb.1; omega, by have := hb.2; simpa using this⟩)
    repeat (refine SameOn.set_ ?_ (fun h => by have := h.1; simp at this; omega) _)
    exact SameOn.refl _ _
  · repeat (refine Below.setCell ?_ (by simp) _)
    exact HBW.out
end Go.Proofs.Ytanhdklaponekaa
