/- slices.Equal at []string, []bool: whether the two lists are one. -/
import Derived.Test.YtanhdklaponekaaBase
import Derived.Test.YtanhdklaponekaaProg
import Derived.Deep.QuietTactic
import Derived.Deep.LoopGhost
import Derived.BigQuiet
import Derived.WalkSpells
namespace Go.Proofs.Ytanhdklaponekaa
open Go Go.RowKit

theorem getElem_map_of {α : Type} {l : List α} {f : α → Value} {k : Nat} {u : Value} (h : (l.map f)[k]? = some u) (hk : k < l.length) : u = f l[k] := by
  rw [List.getElem?_map, List.getElem?_eq_getElem hk] at h; simpa using h.symm
theorem eq_step {α : Type} [DecidableEq α] (xs ys : List α) (j : Nat) (h1 : j < xs.length) (h2 : j < ys.length) :
    decide (xs.drop j = ys.drop j) = (decide (xs[j] = ys[j]) && decide (xs.drop (j + 1) = ys.drop (j + 1))) := by
  simp only [drop_at xs j h1, drop_at ys j h2, List.cons.injEq, Bool.decide_and]
theorem bytes_eq (a b : ByteArray) : (a.toList == b.toList) = decide (a = b) := by
  rw [Bool.eq_iff_iff]
  simp only [beq_iff_eq, decide_eq_true_eq]
  refine ⟨fun h => ?_, fun h => by rw [h]⟩
  rw [ByteArray.toList_eq, ByteArray.toList_eq] at h
  cases a; cases b; simp only [ByteArray.mk.injEq]; exact Array.toList_inj.1 h

theorem equal_strs (w : World) (S S' : Nat → Prop) (v v' : Value) (xs ys : List ByteArray) (h : Row w S 1 v xs.length (xs.map .string)) (h' : Row w S' 1 v' ys.length (ys.map .string)) :
    Calls Try.prog 37 #[v, v'] w fun e w' => e = .returned (.bool (decide (xs = ys))) ∧ ∃ q, w' = w.drewN q := by
  obtain ⟨A, cap, rfl, hl1⟩ := h.form
  obtain ⟨A', cap', rfl, hl2⟩ := h'.form
  have H := Lib.hid h
  have H' := Lib.hid h'
  clear h h'
  by_cases hlen : xs.length = ys.length
  · have hln : ((xs.length : Int) != (ys.length : Int)) = false := by rw [hlen]; simp
    have HL := Lib.hid hlen
    clear hlen
    go_enter Try.func37, Try.ntmps37
    go_wp2
    go_loopg [5, 13] xs.length (fun m _ i wr => ∃ j : Nat, m = xs.length - j ∧ j ≤ xs.length ∧ i = .int .i64 j ∧ Hid (decide (xs.drop j = ys.drop j) = decide (xs = ys)) ∧ ∃ q, wr = w.drewN q)
    case atStart => exact ⟨0, by simp, by omega, rfl, by simp [Hid], 0, rfl⟩
    case round =>
      obtain ⟨j, rfl, hj, rfl, hinv, q, rfl⟩ := hrel
      by_cases hlt : j < xs.length
      · have hlt2 : j < ys.length := by rw [← HL.out]; exact hlt
        obtain ⟨b, o, c, u, hv, _, hu, hc⟩ := H.out.at1 hlt
        obtain ⟨b', o', c', u', hv', _, hu', hc'⟩ := H'.out.at1 hlt2
        obtain rfl := getElem_map_of hu hlt
        obtain rfl := getElem_map_of hu' hlt2
        cases hv; cases hv'
        have hinv1 : (decide (xs[j] = ys[j]) && decide (xs.drop (j + 1) = ys.drop (j + 1))) = decide (xs = ys) := by rw [← eq_step xs ys j hlt hlt2]; exact hinv.out
        clear hu hu'
        have hl3 : (j : Int) < (ys.length : Int) := by omega
        have hl4 : (j : Int) < (xs.length : Int) := by omega
        by_cases heq : xs[j] = ys[j]
        · have hinv2 : Hid (decide (xs.drop (j + 1) = ys.drop (j + 1)) = decide (xs = ys)) := by
            rw [← hinv1, decide_eq_true heq, Bool.true_and]; rfl
          have hbe : (xs[j].toList == ys[j].toList) = true := by rw [bytes_eq]; simpa using heq
          clear hinv hinv1 heq
          go_wp2
          go_quiet (fail)
          go_wp2
          go_roundg (xs.length - (j + 1))
          case measure => omega
          case rel => exact ⟨j + 1, rfl, by omega, by go_num, hinv2, _, rfl⟩
        · have hfin : decide (xs = ys) = false := by
            rw [← hinv1, decide_eq_false heq, Bool.false_and]
          have HF := Lib.hid hfin
          clear hfin hinv hinv1
          have hne : (xs[j].toList == ys[j].toList) = false := by rw [bytes_eq]; simpa using heq
          clear heq
          go_wp2
          go_quiet (fail)
          go_wp2
          go_ret
          exact ⟨by rw [HF.out]; rfl, _, by first | rfl | exact World.drewN_drewN _ _ _⟩
      · have hfin : decide (xs = ys) = true := by
          have h := hinv.out; rw [← h, drop_end xs j (by omega), drop_end ys j (by rw [← HL.out]; omega)]; simp
        have HF := Lib.hid hfin
        have hge : xs.length ≤ j := by omega
        clear hfin hinv hlt
        go_wp2
        go_ret
        exact ⟨by rw [HF.out]; rfl, _, rfl⟩
  · have hfin : decide (xs = ys) = false := by
      simp only [decide_eq_false_iff_not]; intro e; exact hlen (by rw [e])
    have HF := Lib.hid hfin
    have hln : ((xs.length : Int) != (ys.length : Int)) = true := by simp; omega
    clear hfin hlen
    go_enter Try.func37, Try.ntmps37
    go_wp2
    go_ret
    exact ⟨by rw [HF.out]; rfl, 0, rfl⟩

theorem equal_bools (w : World) (S S' : Nat → Prop) (v v' : Value) (xs ys : List Bool) (h : Row w S 1 v xs.length (xs.map .bool)) (h' : Row w S' 1 v' ys.length (ys.map .bool)) :
    Calls Try.prog 38 #[v, v'] w fun e w' => e = .returned (.bool (decide (xs = ys))) ∧ ∃ q, w' = w.drewN q := by
  obtain ⟨A, cap, rfl, hl1⟩ := h.form
  obtain ⟨A', cap', rfl, hl2⟩ := h'.form
  have H := Lib.hid h
  have H' := Lib.hid h'
  clear h h'
  by_cases hlen : xs.length = ys.length
  · have hln : ((xs.length : Int) != (ys.length : Int)) = false := by rw [hlen]; simp
    have HL := Lib.hid hlen
    clear hlen
    go_enter Try.func38, Try.ntmps38
    go_wp2
    go_loopg [5, 13] xs.length (fun m _ i wr => ∃ j : Nat, m = xs.length - j ∧ j ≤ xs.length ∧ i = .int .i64 j ∧ Hid (decide (xs.drop j = ys.drop j) = decide (xs = ys)) ∧ ∃ q, wr = w.drewN q)
    case atStart => exact ⟨0, by simp, by omega, rfl, by simp [Hid], 0, rfl⟩
    case round =>
      obtain ⟨j, rfl, hj, rfl, hinv, q, rfl⟩ := hrel
      by_cases hlt : j < xs.length
      · have hlt2 : j < ys.length := by rw [← HL.out]; exact hlt
        obtain ⟨b, o, c, u, hv, _, hu, hc⟩ := H.out.at1 hlt
        obtain ⟨b', o', c', u', hv', _, hu', hc'⟩ := H'.out.at1 hlt2
        obtain rfl := getElem_map_of hu hlt
        obtain rfl := getElem_map_of hu' hlt2
        cases hv; cases hv'
        have hinv1 : (decide (xs[j] = ys[j]) && decide (xs.drop (j + 1) = ys.drop (j + 1))) = decide (xs = ys) := by rw [← eq_step xs ys j hlt hlt2]; exact hinv.out
        clear hu hu'
        have hl3 : (j : Int) < (ys.length : Int) := by omega
        have hl4 : (j : Int) < (xs.length : Int) := by omega
        by_cases heq : xs[j] = ys[j]
        · have hinv2 : Hid (decide (xs.drop (j + 1) = ys.drop (j + 1)) = decide (xs = ys)) := by
            rw [← hinv1, decide_eq_true heq, Bool.true_and]; rfl
          have hbe : (xs[j] == ys[j]) = true := by simpa using heq
          clear hinv hinv1 heq
          go_wp2
          go_quiet (fail)
          go_wp2
          go_roundg (xs.length - (j + 1))
          case measure => omega
          case rel => exact ⟨j + 1, rfl, by omega, by go_num, hinv2, _, rfl⟩
        · have hfin : decide (xs = ys) = false := by
            rw [← hinv1, decide_eq_false heq, Bool.false_and]
          have HF := Lib.hid hfin
          clear hfin hinv hinv1
          have hne : (xs[j] == ys[j]) = false := by simpa using heq
          clear heq
          go_wp2
          go_quiet (fail)
          go_wp2
          go_ret
          exact ⟨by rw [HF.out]; rfl, _, by first | rfl | exact World.drewN_drewN _ _ _⟩
      · have hfin : decide (xs = ys) = true := by
          have h := hinv.out; rw [← h, drop_end xs j (by omega), drop_end ys j (by rw [← HL.out]; omega)]; simp
        have HF := Lib.hid hfin
        have hge : xs.length ≤ j := by omega
        clear hfin hinv hlt
        go_wp2
        go_ret
        exact ⟨by rw [HF.out]; rfl, _, rfl⟩
  · have hfin : decide (xs = ys) = false := by
      simp only [decide_eq_false_iff_not]; intro e; exact hlen (by rw [e])
    have HF := Lib.hid hfin
    have hln : ((xs.length : Int) != (ys.length : Int)) = true := by simp; omega
    clear hfin hlen
    go_enter Try.func38, Try.ntmps38
    go_wp2
    go_ret
    exact ⟨by rw [HF.out]; rfl, 0, rfl⟩

end Go.Proofs.Ytanhdklaponekaa
