/- recastalike.Types: true of types that are the same data. -/
import Derived.Test.YtanhdklaponekaaEqualFunc
import Derived.Deep.QuietTactic
import Derived.BigQuiet
namespace Go.Proofs.Ytanhdklaponekaa
open Go Go.RowKit

set_option maxHeartbeats 1000000 in
theorem texts_calls {l : List ByteArray} {v v' : Value} {w : World} {S S' : Nat → Prop} (h : Row w S 1 v l.length (l.map .string)) (h' : Row w S' 1 v' l.length (l.map .string)) :
    Calls Try.prog 46 #[v, v'] w fun e w' => e = .returned (.bool true) ∧ ∃ q, w' = w.drewN q := by
  obtain ⟨A, cap, rfl, hlen⟩ := h.form
  obtain ⟨A', cap', rfl, -⟩ := h'.form
  have H := Lib.hid h
  have H' := Lib.hid h'
  clear h h'
  go_enter Try.func46, Try.ntmps46
  go_wp2_with fail
  go_loopg [5] l.length (fun d i wr => ∃ (j q : Nat), d = l.length - j ∧ j ≤ l.length ∧ i = .int .i64 j ∧ wr = w.drewN q)
  case atStart => exact ⟨0, 0, by simp, by omega, rfl, rfl⟩
  case round =>
    obtain ⟨j, q, rfl, hj, rfl, rfl⟩ := hrel
    by_cases hlt : j < l.length
    · obtain ⟨b, o, c, u, hv, hSb, hu, hc⟩ := H.out.at1 hlt
      obtain ⟨b', o', c', u', hv', hSb', hu', hc'⟩ := H'.out.at1 hlt
      cases hv; cases hv'
      rw [List.getElem?_map, List.getElem?_eq_getElem hlt] at hu hu'
      cases hu; cases hu'
      have hl1 : (j : Int) < (l.length : Int) := by omega
      go_wp2_with fail
      go_quiet (fail)
      go_wp2_with fail
      go_roundg (l.length - (j + 1))
      case measure => omega
      case rel => exact ⟨j + 1, _, rfl, by omega, by go_num, rfl⟩
    · obtain rfl : j = l.length := by omega
      go_wp2_with fail
      go_ret
      exact ⟨rfl, _, rfl⟩

set_option maxHeartbeats 1000000 in
theorem bools_calls {l : List Bool} {v v' : Value} {w : World} {S S' : Nat → Prop} (h : Row w S 1 v l.length (l.map .bool)) (h' : Row w S' 1 v' l.length (l.map .bool)) :
    Calls Try.prog 47 #[v, v'] w fun e w' => e = .returned (.bool true) ∧ ∃ q, w' = w.drewN q := by
  obtain ⟨A, cap, rfl, hlen⟩ := h.form
  obtain ⟨A', cap', rfl, -⟩ := h'.form
  have H := Lib.hid h
  have H' := Lib.hid h'
  clear h h'
  go_enter Try.func47, Try.ntmps47
  go_wp2_with fail
  go_loopg [5] l.length (fun d i wr => ∃ (j q : Nat), d = l.length - j ∧ j ≤ l.length ∧ i = .int .i64 j ∧ wr = w.drewN q)
  case atStart => exact ⟨0, 0, by simp, by omega, rfl, rfl⟩
  case round =>
    obtain ⟨j, q, rfl, hj, rfl, rfl⟩ := hrel
    by_cases hlt : j < l.length
    · obtain ⟨b, o, c, u, hv, hSb, hu, hc⟩ := H.out.at1 hlt
      obtain ⟨b', o', c', u', hv', hSb', hu', hc'⟩ := H'.out.at1 hlt
      cases hv; cases hv'
      rw [List.getElem?_map, List.getElem?_eq_getElem hlt] at hu hu'
      cases hu; cases hu'
      have hl1 : (j : Int) < (l.length : Int) := by omega
      go_wp2_with fail
      go_quiet (fail)
      go_wp2_with fail
      go_roundg (l.length - (j + 1))
      case measure => omega
      case rel => exact ⟨j + 1, _, rfl, by omega, by go_num, rfl⟩
    · obtain rfl : j = l.length := by omega
      go_wp2_with fail
      go_ret
      exact ⟨rfl, _, rfl⟩

theorem two_blks (w : World) (t : TypeId) (cs ds : Array Value) : Blk ((w.alloc (.cells cs t)).alloc (.cells ds t)) w.heap.size t cs ∧ Blk ((w.alloc (.cells cs t)).alloc (.cells ds t)) (w.heap.size + 1) t ds :=
  ⟨(Blk.new w t cs).alloc _, by simpa using Blk.new (w.alloc (.cells cs t)) t ds⟩

set_option maxHeartbeats 4000000 in
set_option maxRecDepth 100000 in
theorem alike_any (N : Nat) : ∀ (t : T) (cs ds : List Value) (w : World) (S S' : Nat → Prop), t.sz < N → TyR w S t cs → TyR w S' t ds → Old S w → Old S' w →
    Calls Try.prog 18 #[.agg cs.toArray, .agg ds.toArray] w fun e w' => e = .returned (.bool true) ∧ Below w.heap.size w w' := by
  induction N with
  | zero => intro t cs ds w S S' h; exact absurd h (by omega)
  | succ N ih =>
    intro t cs ds w S S' hN hr hr' hS hS'
    obtain ⟨A1, c1, A2, c2, A3, c3, rfl, r1, r2, r3⟩ := hr.forms
    obtain ⟨A1', c1', A2', c2', A3', c3', rfl, r1', r2', r3'⟩ := hr'.forms
    have hlen : t.ks.length ≤ 9223372036854775807 := by obtain ⟨_, _, _, h⟩ := r3.form; exact h
    have HS := Lib.hid hS
    have HS' := Lib.hid hS'
    have R1 := Lib.hid r1
    have R2 := Lib.hid r2
    have R3 := Lib.hid r3
    have R1' := Lib.hid r1'
    have R2' := Lib.hid r2'
    have R3' := Lib.hid r3'
    have HSZ : Hid (∀ i (h : i < t.ks.length), t.ks[i].sz < N) := fun i h => by
      have := szL_mem h
      have e : t.sz = T.szL t.ks + 1 := by obtain ⟨k, nm, n, f, ns, ms, ks⟩ := t; rw [sz_mk]; rfl
      omega
    have IH := Lib.hid ih
    clear hS hS' r1 r2 r3 r1' r2' r3' hN ih hr hr'
    obtain ⟨X, hX⟩ : ∃ X, (w.alloc (.cells #[.int .i64 t.kd, .string t.nm, .int .i64 t.n, .bool t.fl, .slice A1 t.ns.length c1, .slice A2 t.ms.length c2, .slice A3 t.ks.length c3] 26)).alloc (.cells #[.int .i64 t.kd, .string t.nm, .int .i64 t.n, .bool t.fl, .slice A1' t.ns.length c1', .slice A2' t.ms.length c2', .slice A3' t.ks.length c3'] 26) = X := ⟨_, rfl⟩
    have hwX : Below w.heap.size w X := by rw [← hX]; exact ((Below.refl _ _).alloc (Nat.le_refl _) _).alloc (by simp) _
    have hzX : X.heap.size = w.heap.size + 2 := by rw [← hX]; simp
    have HX0 := Lib.hid hwX
    have hB := two_blks w 26 #[.int .i64 t.kd, .string t.nm, .int .i64 t.n, .bool t.fl, .slice A1 t.ns.length c1, .slice A2 t.ms.length c2, .slice A3 t.ks.length c3] #[.int .i64 t.kd, .string t.nm, .int .i64 t.n, .bool t.fl, .slice A1' t.ns.length c1', .slice A2' t.ms.length c2', .slice A3' t.ks.length c3']
    rw [hX] at hB
    have HB := Lib.hid hB
    have HSX : Hid (SameOn S w X) := SameOn.of_below hwX HS.out
    have HSX' : Hid (SameOn S' w X) := SameOn.of_below hwX HS'.out
    have HXX := Lib.hid hX
    clear hB hwX hX
    go_enter Try.func18, Try.ntmps18
    go_wp2_with fail
    rw [HXX.out]
    refine (texts_calls (R1.out.keep HSX.out) (R1'.out.keep HSX'.out)).mono ?_
    rintro e w1 ⟨rfl, q, rfl⟩
    obtain ⟨p0, p1, p2, p3, p4, p5, p6, pf⟩ := HB.out.1.cells7
    obtain ⟨q0, q1, q2, q3, q4, q5, q6, qf⟩ := HB.out.2.cells7
    have hwx1 : w.heap.size < X.heap.size := by omega
    have hwx2 : w.heap.size + 1 < X.heap.size := by omega
    go_wp2_with fail
    refine (bools_calls ((R2.out.keep HSX.out).dr _) ((R2'.out.keep HSX'.out).dr _)).mono ?_
    rintro e w1 ⟨rfl, q', rfl⟩
    go_wp2_with fail
    go_loopg [5] t.ks.length (fun d i wr => ∃ (j : Nat), d = t.ks.length - j ∧ j ≤ t.ks.length ∧ i = .int .i64 j ∧ Hid (Below X.heap.size X wr))
    case atStart => exact ⟨0, by simp, by omega, rfl, below_drewN (Below.refl _ _) _⟩
    case round =>
      obtain ⟨j, rfl, hj, rfl, HBL⟩ := hrel
      clear p0 p1 p2 p3 p4 p5 p6 pf q0 q1 q2 q3 q4 q5 q6 qf
      have hzr := HBL.out.size
      have hwr1 : w.heap.size < wr.heap.size := by omega
      have hwr2 : w.heap.size + 1 < wr.heap.size := by omega
      have HWR : Hid (Below w.heap.size w wr) := HX0.out.trans (HBL.out.mono (by omega))
      have HSR : Hid (SameOn S w wr) := SameOn.of_below HWR.out HS.out
      have HSR' : Hid (SameOn S' w wr) := SameOn.of_below HWR.out HS'.out
      have HOR : Hid (Old S wr) := HS.out.below HWR.out
      have HOR' : Hid (Old S' wr) := HS'.out.below HWR.out
      by_cases hlt : j < t.ks.length
      · obtain ⟨b, o, c, E1, e1, E2, e2, E3, e3, hv, hSb, ⟨g0, g1, g2, g3, g4, g5, g6⟩, hkr⟩ := (R3.out.keep HSR.out (fun _ h => h)).at_ hlt
        obtain ⟨b', o', c', E1', e1', E2', e2', E3', e3', hv', hSb', ⟨g0', g1', g2', g3', g4', g5', g6'⟩, hkr'⟩ := (R3'.out.keep HSR'.out (fun _ h => h)).at_ hlt
        cases hv
        cases hv'
        obtain ⟨p0, p1, p2, p3, p4, p5, p6, pf⟩ := (HB.out.1.below HBL.out hwx1).cells7
        obtain ⟨q0, q1, q2, q3, q4, q5, q6, qf⟩ := (HB.out.2.below HBL.out hwx2).cells7
        have HKR := Lib.hid hkr
        have HKR' := Lib.hid hkr'
        have hl1 : (j : Int) < (t.ks.length : Int) := by omega
        have HKD := Lib.hid (hkr.keep (w' := wr.drew) (SameOn.refl S wr) (fun _ h => h))
        have HKD' := Lib.hid (hkr'.keep (w' := wr.drew) (SameOn.refl S' wr) (fun _ h => h))
        have HOD : Hid (Old S wr.drew) := HOR.out
        have HOD' : Hid (Old S' wr.drew) := HOR'.out
        have HIH := Lib.hid (IH.out t.ks[j] _ _ wr.drew S S' (HSZ.out j hlt) HKD.out HKD'.out HOD.out HOD'.out)
        clear hkr hkr' p0 p1 p2 p3 p4 p5 pf q0 q1 q2 q3 q4 q5 qf
        go_wp2_with fail
        go_region_with
          (first
            | (go_at_call 18
               refine HIH.out.mono ?_
               rintro e w2 ⟨rfl, hb2⟩
               have hz2 := hb2.size
               have HB2 : Hid (Below X.heap.size X w2) := HBL.out.trans (((Below.refl wr.heap.size wr).drew.trans hb2).mono (by omega))
               clear hb2)
            | fail)
        all_goals
          go_wp2_with fail
          go_roundg (t.ks.length - (j + 1))
          case measure => omega
          case rel => exact ⟨j + 1, rfl, by omega, by go_num, HB2⟩
      · obtain rfl : j = t.ks.length := by omega
        obtain ⟨p0, p1, p2, p3, p4, p5, p6, pf⟩ := (HB.out.1.below HBL.out hwx1).cells7
        clear p0 p1 p2 p3 p4 p5 pf
        go_wp2_with fail
        go_ret
        exact ⟨rfl, HWR.out⟩
theorem alike_calls {t : T} {cs ds : List Value} {w : World} {S S' : Nat → Prop} (h : TyR w S t cs) (h' : TyR w S' t ds) (hS : Old S w) (hS' : Old S' w) :
    Calls Try.prog 18 #[.agg cs.toArray, .agg ds.toArray] w fun e w' => e = .returned (.bool true) ∧ Below w.heap.size w w' :=
  alike_any (t.sz + 1) t cs ds w S S' (Nat.lt_succ_self _) h h' hS hS'
end Go.Proofs.Ytanhdklaponekaa
