/- types.every over types.New's closure: are all declared? -/
import Derived.Test.YtanhdklaponekaaMtX
import Derived.Test.YtanhdklaponekaaMtF
namespace Go.Proofs.Ytanhdklaponekaa
open Go Go.RowKit

def knownB (L : List Nd) (t : T) : Bool := decide (t.kd ≠ 8) || (look L t.nm).isSome
theorem enters_every1 (args : Array Value) (w : World) : (callFunc 78 args).run Try.prog w = .ok (.enter 78 args) w := by kernel_rfl

set_option maxHeartbeats 4000000 in
set_option maxRecDepth 100000 in
theorem known_calls {L : List Nd} {g wb : Nat} {w : World} {S S' : Nat → Prop} {t : T} {cs : List Value} (h : WC w S g L) (hw : w.cell? ⟨wb, 0, none⟩ = some (.pointer (some ⟨g, 0, none⟩))) (hwb : wb < w.heap.size) (ht : TyR w S' t cs) (hok : t.ok) :
    Calls Try.prog 64 #[.agg cs.toArray, .pointer (some ⟨wb, 0, none⟩)] w fun e w' => e = .returned (.bool (knownB L t)) ∧ Below w.heap.size w w' := by
  obtain ⟨A1, c1, A2, c2, A3, c3, rfl, -⟩ := ht.forms
  have hnm : t.nm.size ≤ Lim := by
    obtain ⟨k, nm, n, f, ns, ms, ks⟩ := t
    exact hok.2.2.1
  obtain ⟨⟨hg, gt, b, hgt, e1, e2, hb, htab⟩, hS, -⟩ := h
  have hgl := hS g hg
  have hgtl := hS gt hgt
  have hbl := hS b hb
  obtain ⟨D1, u1, D2, u2, D3, u3, D4, u4, -, hlk, -⟩ := htab.looks hnm
  have hl1 : ∀ o, _ := fun o => hlk (w.alloc o).drew (Below.heap_alloc w o _ hbl)
  have hl2 : ∀ o o', _ := fun o o' => hlk ((w.alloc o).alloc o').drew ((Below.heap_alloc (w.alloc o) o' _ (by simp; omega)).trans (Below.heap_alloc w o _ hbl))
  obtain ⟨d, hd⟩ : ∃ d, lookD L t.nm = d := ⟨_, rfl⟩
  obtain ⟨k, hk⟩ : ∃ k, (look L t.nm).isSome = k := ⟨_, rfl⟩
  rw [hd, hk] at hl1 hl2
  have HKB : Hid (knownB L t = (decide (t.kd ≠ 8) || k)) := by unfold knownB; rw [hk]; exact rfl
  clear htab hS hlk hd hk ht hok
  go_enter Try.func64, Try.ntmps64
  by_cases h8 : t.kd = 8
  · have hb8 : (t.kd != 8) = false := by simpa using h8
    have HR : Hid (knownB L t = k) := Lib.hid (by rw [HKB.out, h8]; simp)
    clear h8
    go_wp2_with fail
    go_region
    all_goals
      go_wp2_with fail
      go_ret
      exact ⟨by rw [HR.out]; rfl, ((below_al _ _).alloc (by simp) _).drew⟩
  · have hb8 : (t.kd != 8) = true := by simpa using h8
    have HR : Hid (knownB L t = true) := Lib.hid (by rw [HKB.out, decide_eq_true h8]; rfl)
    clear h8
    go_wp2_with fail
    go_region
    all_goals
      go_wp2_with fail
      go_ret
      exact ⟨by rw [HR.out]; rfl, ((below_al _ _).alloc (by simp) _).drew⟩

mutual
/-- is it so of a type and of all in it? -/
def everyB (f : T → Bool) : T → Bool
  | .mk k nm n fl ns ms ks => f (.mk k nm n fl ns ms ks) && everyL f ks
def everyL (f : T → Bool) : List T → Bool
  | [] => true
  | t :: ts => everyB f t && everyL f ts
end
theorem everyL_all (f : T → Bool) : ∀ l : List T, everyL f l = l.all (everyB f)
  | [] => rfl
  | t :: ts => by rw [everyL, everyL_all f ts]; rfl
theorem everyB_eq (f : T → Bool) (t : T) : everyB f t = (f t && t.ks.all (everyB f)) := by
  obtain ⟨k, nm, n, fl, ns, ms, ks⟩ := t
  rw [everyB, everyL_all]; rfl
/-- a function that tells f and writes nothing old -/
structure IsF (F : FuncId) (caps : Array Value) (f : T → Bool) (w0 : World) : Prop where
  enters : ∀ args w, (callFunc F args).run Try.prog w = .ok (.enter F args) w
  run : ∀ (w : World) (S : Nat → Prop) (t : T) (cs : List Value), Below w0.heap.size w0 w → TyR w S t cs → Old S w → t.ok →
    Calls Try.prog F (#[.agg cs.toArray] ++ caps) w fun e w' => e = .returned (.bool (f t)) ∧ Below w.heap.size w w'
def EvAt (F : FuncId) (caps : Array Value) (f : T → Bool) (w0 : World) (t : T) : Prop := ∀ (w : World) (S : Nat → Prop) (cs : List Value), Below w0.heap.size w0 w → TyR w S t cs → Old S w → t.ok →
    Calls Try.prog 65 #[.agg cs.toArray, .func (.func F) #[] caps] w fun e w' => e = .returned (.bool (everyB f t)) ∧ Below w.heap.size w w'
theorem every1_calls {F : FuncId} {caps : Array Value} {f : T → Bool} {w0 w : World} {S : Nat → Prop} {t : T} {cs : List Value} {ib : Nat} (ih : EvAt F caps f w0 t) (hb : Below w0.heap.size w0 w) (ht : TyR w S t cs) (hS : Old S w) (hok : t.ok)
    (hi : w.cell? ⟨ib, 0, none⟩ = some (.func (.func F) #[] caps)) (hib : ib < w.heap.size) :
    Calls Try.prog 78 #[.agg cs.toArray, .pointer (some ⟨ib, 0, none⟩)] w fun e w' => e = .returned (.bool (!everyB f t)) ∧ Below w.heap.size w w' := by
  obtain ⟨A1, c1, A2, c2, A3, c3, rfl, -⟩ := ht.forms
  have IH := Lib.hid ih
  have HB := Lib.hid hb
  have HT := Lib.hid ht
  have HS := Lib.hid hS
  have HK := Lib.hid hok
  clear ih hb ht hS hok
  go_enter Try.func78, Try.ntmps78
  go_wp2_with fail
  refine (IH.out (w.alloc _) S [.int .i64 t.kd, .string t.nm, .int .i64 t.n, .bool t.fl, .slice A1 t.ns.length c1, .slice A2 t.ms.length c2, .slice A3 t.ks.length c3] (HB.out.alloc HB.out.size _) (HT.out.keep ((SameOn.refl _ _).alloc HS.out _) (fun _ h => h)) (HS.out.alloc _) HK.out).mono ?_
  rintro e w1 ⟨rfl, hb1⟩
  have HB1 : Hid (Below w.heap.size w w1) := (below_al _ _).trans (hb1.mono (by simp))
  clear hb1
  go_wp2_with fail
  go_ret
  exact ⟨rfl, HB1.out⟩
set_option maxHeartbeats 4000000 in
set_option maxRecDepth 100000 in
theorem every_at {F : FuncId} {caps : Array Value} {f : T → Bool} {w0 : World} (hF : IsF F caps f w0) : ∀ (n : Nat) (t : T), SizeOf.sizeOf t ≤ n → EvAt F caps f w0 t
  | 0, t, h => absurd h (by obtain ⟨k, nm, n, fl, ns, ms, ks⟩ := t; simp)
  | n + 1, t, h => by
    intro w S cs hb ht hS hok
    have IH : Hid (∀ k ∈ t.ks, EvAt F caps f w0 k) := fun k hk => every_at hF n k (by
      obtain ⟨k', nm, n', fl, ns, ms, ks⟩ := t
      have := List.sizeOf_lt_of_mem hk
      simp only [T.mk.sizeOf_spec] at h
      simp only [T.ks] at this
      omega)
    obtain ⟨A1, c1, A2, c2, A3, c3, rfl, -⟩ := ht.forms
    have hrow := ht.row3
    have HF := Lib.hid hF
    have HB := Lib.hid hb
    have HT := Lib.hid ht
    have HS := Lib.hid hS
    have HK := Lib.hid hok
    have HROW := Lib.hid hrow
    have HKI := Lib.hid (kids_ok hok)
    have hmf : ∀ (fn : Fn) (first cap : Array Value) (w : World), (Instr.makeFunc fn first cap).run Try.prog w = .ok (.func fn first cap) w := fun _ _ _ _ => rfl
    obtain ⟨r, hr⟩ : ∃ r, everyB f t = r := ⟨_, rfl⟩
    have HR : Hid ((f t && t.ks.all (everyB f)) = r) := by rw [← everyB_eq]; exact hr
    rw [hr]
    clear hb ht hS hok hrow hr h hF
    go_enter Try.func65, Try.ntmps65
    go_wp2_with fail
    rw [HF.out.enters, Oper.upon_enter]
    refine (HF.out.run ((w.alloc _).alloc _) S t [.int .i64 t.kd, .string t.nm, .int .i64 t.n, .bool t.fl, .slice A1 t.ns.length c1, .slice A2 t.ms.length c2, .slice A3 t.ks.length c3] ((HB.out.alloc HB.out.size _).alloc (by have := HB.out.size; simp; omega) _) (HT.out.keep (((SameOn.refl _ _).alloc HS.out _).alloc (HS.out.alloc _) _) (fun _ h => h)) ((HS.out.alloc _).alloc _) HK.out).mono ?_
    rintro e w1 ⟨rfl, hb1⟩
    have hz1 := hb1.size
    simp at hz1
    have HB1 : Hid (Below w.heap.size w w1) := ((below_al _ _).alloc (by simp) _).trans (hb1.mono (by simp; omega))
    have hib : w1.cell? ⟨w.heap.size + 1, 0, none⟩ = some (.func (.func F) #[] caps) := by
      have hh := (Blk.new (w.alloc (.cells #[.int .i64 t.kd, .string t.nm, .int .i64 t.n, .bool t.fl, .slice A1 t.ns.length c1, .slice A2 t.ms.length c2, .slice A3 t.ks.length c3] 26)) 28 #[.func (.func F) #[] caps]).below hb1 (by simp)
      simp at hh
      exact hh.cell 0
    have HC0 : Hid (Blk w1 w.heap.size 26 #[.int .i64 t.kd, .string t.nm, .int .i64 t.n, .bool t.fl, .slice A1 t.ns.length c1, .slice A2 t.ms.length c2, .slice A3 t.ks.length c3]) := ((Blk.new w _ _).alloc _).below hb1 (by simp; omega)
    obtain ⟨k0, k1, k2, k3, k4, k5, k6, kf⟩ := HC0.out.cells7
    have HIB := Lib.hid hib
    clear hb1
    cases hf : f t with
    | false =>
      have HRR : Hid (r = false) := Lib.hid (by rw [← HR.out, hf]; rfl)
      clear hf
      go_wp2_with fail
      go_ret
      exact ⟨by rw [HRR.out]; rfl, HB1.out⟩
    | true =>
      have HRR : Hid (r = t.ks.all (everyB f)) := Lib.hid (by rw [← HR.out, hf]; rfl)
      clear hf
      go_wp2_with fail
      refine (contains_g (F := 78) (caps := #[.pointer (some ⟨w.heap.size + 1, 0, none⟩)]) (b := fun j => !((t.ks[j]?).elim true (everyB f))) (P := fun _ wx => Below w1.heap.size w1 wx) (S := S) enters_every1 (HROW.out.keep (SameOn.of_below HB1.out HS.out) (fun _ h => h)) (Below.refl _ _) (fun j wx _ hx => SameOn.of_below hx (HS.out.below HB1.out)) ?_).mono ?_
      · intro j hj wx cs _ hx hty
        have hzx := hx.size
        have he : (t.ks[j]?).elim true (everyB f) = everyB f t.ks[j] := by rw [List.getElem?_eq_getElem hj]; rfl
        rw [he]
        refine (every1_calls (F := F) (caps := caps) (f := f) (w0 := w0) (S := S) (IH.out _ (List.getElem_mem hj)) ((HB.out.trans (HB1.out.mono HB.out.size)).trans (hx.mono (by have := HB.out.size; omega))) hty ((HS.out.below HB1.out).below hx) (HKI.out _ (List.getElem_mem hj)) ((cell_below hx (by omega)).trans HIB.out) (by omega)).mono ?_
        rintro e w2 ⟨rfl, hb2⟩
        exact ⟨rfl, hx.trans (hb2.mono hzx)⟩
      rintro e w2 ⟨q, rfl, hq⟩
      have HQ : Hid ((!q) = t.ks.all (everyB f) ∧ Below w.heap.size w w2) := by
        rcases hq with ⟨rfl, k, hk, -, hbk, hx⟩ | ⟨rfl, hall, hx⟩
        · refine ⟨?_, HB1.out.trans (hx.mono (by omega))⟩
          have hbk : (!((t.ks[k]?).elim true (everyB f))) = true := hbk
          rw [List.getElem?_eq_getElem hk] at hbk
          simp only [Option.elim, Bool.not_eq_true'] at hbk
          symm
          rw [Bool.not_true, List.all_eq_false]
          exact ⟨_, List.getElem_mem hk, by rw [hbk]; simp⟩
        · refine ⟨?_, HB1.out.trans (hx.mono (by omega))⟩
          symm
          rw [Bool.not_false, List.all_eq_true]
          intro x hx'
          obtain ⟨i, hi, rfl⟩ := List.getElem_of_mem hx'
          have : (!((t.ks[i]?).elim true (everyB f))) = false := hall i hi
          rw [List.getElem?_eq_getElem hi] at this
          simpa using this
      clear hq
      go_wp2_with fail
      go_ret
      exact ⟨by rw [HRR.out, ← HQ.out.1]; rfl, HQ.out.2⟩
theorem every_calls {F : FuncId} {caps : Array Value} {f : T → Bool} {w0 : World} (hF : IsF F caps f w0) (t : T) : EvAt F caps f w0 t := every_at hF _ t (Nat.le_refl _)
end Go.Proofs.Ytanhdklaponekaa
