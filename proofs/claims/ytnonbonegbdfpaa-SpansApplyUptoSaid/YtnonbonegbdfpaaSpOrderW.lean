/- recastlaw1.SpansOrder: the walk: true. -/
import Derived.Test.YtnonbonegbdfpaaSpMuch
import Derived.Test.YtnonbonegbdfpaaSpFits
import Derived.Test.YtnonbonegbdfpaaSpSet
import Derived.Test.YtnonbonegbdfpaaSpApp
namespace Go.Proofs.Ytnonbonegbdfpaa
open Go Go.RowKit

theorem applyP_twice (fs : List Fi) (l : List Ed) : applyP fs (l.reverse ++ l) = applyP fs l := by unfold applyP; rw [sortd_twice]
theorem txS_twice (l : List Ed) : txS (l.reverse ++ l) = 2 * txS l := by
  unfold txS
  rw [List.map_append, List.sum_append, List.map_reverse, List.sum_reverse]; omega

/-- Apply's two results, as one pair -/
def apR (fs : List Fi) (l : List Ed) : List Fi × Int := match applyP fs l with | some gs => (gs, 0) | none => ([], 1)
theorem ApplyRes.un {fs : List Fi} {l : List Ed} {w : World} {e : Ending} {w' : World} (h : ApplyRes fs l w e w') :
    ∃ gs er u, e = .returned (.tuple #[u, .int .i64 er]) ∧ w'.ownsRow w.heap.size 43 2 u gs.length (flatF gs) ∧ (gs, er) = apR fs l ∧ Below w.heap.size w w' := by
  obtain ⟨⟨gs, h1, u, rfl, h2⟩ | ⟨h1, rfl⟩, hb⟩ := h
  · exact ⟨gs, 0, u, rfl, h2, by unfold apR; rw [h1], hb⟩
  · exact ⟨[], 1, _, rfl, World.ownsRow_nil _ _ _ _, by unfold apR; rw [h1], hb⟩

set_option maxHeartbeats 4000000 in
set_option maxRecDepth 100000 in
theorem spansOrder_walk {fs : List Fi} {l : List Ed} {v u : Value} {w : World} (h : Row w (fun b => b < w.heap.size) 2 v fs.length (flatF fs)) (h2 : Row w (fun b => b < w.heap.size) 4 u l.length (flat l))
    (hb : fs.length ≤ 2000000) (hb2 : l.length ≤ 2000000) (hp : ∀ f ∈ fs, f.p.size ≤ 2000000 ∧ f.tx.size ≤ 2000000) (hq : ∀ x ∈ l, x.p.size ≤ 2000000) (ht : txS l ≤ 2000000) :
    Calls Try.prog 5 #[v, u] w fun e w' => e = .returned (.bool true) ∧ Below w.heap.size w w' := by
  have HA : Hid (∀ w, Calls Try.prog 11 #[] w fun e w' => e = .returned (.bool true) ∧ Below w.heap.size w w') := fun w => awake_calls
  obtain ⟨i0, hi, iz0, iz1, iz2⟩ := info_parts info_edits
  obtain ⟨A, cap, rfl, hlen⟩ := h.form
  obtain ⟨B, cap2, rfl, hlen2⟩ := h2.form
  have H := Lib.hid h
  have H2 := Lib.hid h2
  have HP := Lib.hid hp
  have HQ := Lib.hid hq
  have HT := Lib.hid ht
  clear h h2 hp hq ht
  go_enter Try.func5, Try.ntmps5
  go_wp2_with fail
  refine (fits_calls H.out (by omega) (fun f hf => by have := HP.out f hf; omega)).mono ?_
  rintro e w1 ⟨⟨rfl, hfit⟩ | rfl, hb1⟩
  case inr =>
    have hz1 := hb1.size
    go_wp2_with (go_at_call 11; refine (HA.out _).mono ?_; rintro e w' ⟨rfl, hb⟩)
    go_ret
    exact ⟨by simp, hb1.trans (hb.mono hz1)⟩
  have HW1 := Lib.hid hb1
  have hz1 := hb1.size
  have HR1 : Hid (Row w1 (fun b => b < w.heap.size) 4 (.slice B l.length cap2) l.length (flat l)) := H2.out.keep (SameOn.of_below HW1.out (fun b hb => hb))
  clear hb1 hfit
  go_wp2_with fail
  refine (much_calls HR1.out (by omega)).mono ?_
  rintro e w2 ⟨⟨r, rfl⟩, hb2'⟩
  have HW2 : Hid (Below w.heap.size w w2) := HW1.out.trans (hb2'.mono hz1)
  have hz2 := HW2.out.size
  clear hb2' HR1
  cases r with
  | true =>
    go_wp2_with (go_at_call 11; refine (HA.out _).mono ?_; rintro e w' ⟨rfl, hb⟩)
    go_ret
    exact ⟨by simp, HW2.out.trans (hb.mono hz2)⟩
  | false =>
    go_wp2_with fail
    go_loopg [5, 6] l.length (fun d m i wr => ∃ (j : Nat) (n : Int), d = l.length - j ∧ j ≤ l.length ∧ n = (l.length : Int) - 1 - j ∧ i = .int .i64 n ∧ Hid (wr.ownsRow w.heap.size 33 4 m j (flat (l.reverse.take j))) ∧ Hid (Below w.heap.size w wr))
    case atStart => exact ⟨0, _, by simp, by omega, by omega, rfl, World.ownsRow_nil _ _ _ _, HW2.out⟩
    case round =>
      obtain ⟨j, n, rfl, hj, hn, rfl, HO, HBW⟩ := hrel
      have hzr := HBW.out.size
      have HR2 : Hid (Row wr (fun b => b < w.heap.size) 4 (.slice B l.length cap2) l.length (flat l)) := H2.out.keep (SameOn.of_below HBW.out (fun b hb => hb))
      by_cases hlt : j < l.length
      · obtain ⟨m, rfl⟩ : ∃ m : Nat, n = m := ⟨n.toNat, by omega⟩
        have hml : m < l.length := by omega
        obtain ⟨b, o, rfl, -, hnc, a0, a1, a2, a3⟩ := row_at4 HR2.out hml rfl
        have HTK : Hid (flat (l.reverse.take (j + 1)) = flat (l.reverse.take j) ++ flat [l[m]]) := by
          unfold Hid
          rw [← flat_app, List.take_succ_eq_append_getElem (by simpa using hlt), List.getElem_reverse]
          congr 3
          congr 1
          omega
        have HN := Lib.hid hn
        clear hn
        have hge : decide (0 ≤ (m : Int)) = true := decide_eq_true (by omega)
        have hmI : (m : Int) < (l.length : Int) := by omega
        go_wp2_with (at_builtin; refine wpList_append_row _ rfl _ _ 22 rfl w.heap.size 33 i0 _ 4 48 Try.underlying22 hi iz0 iz1 iz2 rfl (by omega) _ j (flat (l.reverse.take j)) rfl ?c1 (fun _ => True) (.slice (some ⟨wr.heap.size, 0, none⟩) 1 1) 1 (flat [l[m]]) rfl ?c2 (flat_one _) ?c3 ?c4 ?c5 ?_)
        case c1 => exact own_below HO.out ((Below.refl _ _).alloc (Nat.le_refl _) _)
        case c2 => exact row_blk (Blk.new wr 33 _) rfl (by decide) trivial
        case c3 => unfold maxLen; omega
        case c4 => omega
        case c5 => simp; omega
        intro v' w3 hown hg hnil hat
        have HO3 : Hid (w3.ownsRow w.heap.size 33 4 v' (j + 1) (flat (l.reverse.take (j + 1)))) := by unfold Hid; rw [HTK.out]; exact hown
        have HB3 : Hid (Below w.heap.size w w3) := (HBW.out.alloc hzr _).grown hg (by simp; omega) (own_ge HO.out)
        clear hown hg hnil hat HTK
        go_wp2_with fail
        go_roundg (l.length - (j + 1))
        case measure => omega
        case rel => exact ⟨j + 1, _, rfl, by omega, (by have := HN.out; omega), rfl, HO3.out, HB3.out⟩
      · obtain rfl : j = l.length := by omega
        have hnn : decide (0 ≤ n) = false := decide_eq_false (by omega)
        have HR1 : Hid (Row wr (fun b => b < w.heap.size) 2 (.slice A fs.length cap) fs.length (flatF fs)) := H.out.keep (SameOn.of_below HBW.out (fun b hb => hb))
        obtain ⟨C, c3, rfl⟩ := own_form HO.out
        go_wp2_with fail
        refine (apply_ok (fs := fs) (l := l) (S := fun b => b < w.heap.size) HR1.out HR2.out (fun b hb => Nat.lt_of_lt_of_le hb hzr) (by omega) (by omega) (fun f hf => by have := (HP.out f hf).1; unfold maxLen; omega) (fun x hx => by have := HQ.out x hx; unfold maxLen; omega) (fun f hf => by have := (HP.out f hf).2; have := HT.out; omega)).mono ?_
        rintro e w4 hres
        obtain ⟨gs, er, u4, rfl, ho, hap, hb4⟩ := hres.un
        obtain ⟨D, c4, rfl⟩ := own_form ho
        have hlr : l.reverse.take l.length = l.reverse := List.take_of_length_le (by simp)
        have HM4 : Hid (w4.ownsRow w.heap.size 33 4 (.slice C l.length c3) l.length (flat l.reverse)) := by
          have := own_below HO.out hb4
          rw [hlr] at this
          exact this
        have HO4 := Lib.hid ho
        have HAP := Lib.hid hap
        have HB4 : Hid (Below w.heap.size w w4) := HBW.out.trans (hb4.mono hzr)
        have hz4 := HB4.out.size
        have HNE : Hid (∀ k, (Value.slice D gs.length c4).ownBlock = some k → (Value.slice C l.length c3).ownBlock ≠ some k) := fun k h1 h2 => by
          have := (HO4.out.lt k h1).1
          have := (HO.out.lt k h2).2
          omega
        have HR4 : Hid (Row w4 (fun b => b < w.heap.size) 4 (.slice B l.length cap2) l.length (flat l)) := H2.out.keep (SameOn.of_below HB4.out (fun b hb => hb))
        clear ho hap hb4 hlr HR1 HR2 HO HBW
        go_wp2_with (at_builtin; refine wpList_append_row _ rfl _ _ 22 rfl w.heap.size 33 i0 _ 4 48 Try.underlying22 hi iz0 iz1 iz2 rfl (by omega) _ l.length (flat l.reverse) rfl ?c1 (fun b => b < w.heap.size) (.slice B l.length cap2) l.length (flat l) rfl ?c2 (flat_one _) ?c3 ?c4 ?c5 ?_)
        case c1 => exact HM4.out
        case c2 => exact HR4.out
        case c3 => unfold maxLen; omega
        case c4 => omega
        case c5 => exact hz4
        intro v5 w5 hown hg hnil hat
        obtain ⟨E, c5, rfl⟩ := own_form hown
        have HO5 : Hid (w5.ownsRow w.heap.size 33 4 (.slice E (l.length + l.length) c5) (l.reverse ++ l).length (flat (l.reverse ++ l))) := by
          unfold Hid
          rw [flat_app, List.length_append, List.length_reverse]; exact hown
        have HF5 : Hid (w5.ownsRow wr.heap.size 43 2 (.slice D gs.length c4) gs.length (flatF gs)) := HO4.out.kept hg (by
          cases e : (Value.slice D gs.length c4).ownBlock with
          | none => exact .inl rfl
          | some k => exact .inr (fun e' => HNE.out k e e'.symm))
        have HB5 : Hid (Below w.heap.size w w5) := HB4.out.grown hg hz4 (own_ge HM4.out)
        have hz5 := HB5.out.size
        have HR5 : Hid (Row w5 (fun b => b < w.heap.size) 2 (.slice A fs.length cap) fs.length (flatF fs)) := H.out.keep (SameOn.of_below HB5.out (fun b hb => hb))
        clear hown hg hnil hat HM4 HO4 HB4 HNE HR4
        go_wp2_with fail
        refine (apply_ok (fs := fs) (l := l.reverse ++ l) (S := fun b => b < w5.heap.size) (HR5.out.more (fun b hb => Nat.lt_of_lt_of_le hb hz5)) (Row.of_own HO5.out (fun b hb => (HO5.out.lt b hb).2)) (fun b hb => hb) (by omega) (by rw [List.length_append, List.length_reverse]; omega) (fun f hf => by have := (HP.out f hf).1; unfold maxLen; omega)
          (fun x hx => by
            have hx' : x ∈ l := by simpa using hx
            have := HQ.out x hx'
            unfold maxLen; omega) (fun f hf => by have := (HP.out f hf).2; have := HT.out; rw [txS_twice]; omega)).mono ?_
        rintro e w6 hres
        obtain ⟨gs', er', u6, rfl, ho, hap, hb6⟩ := hres.un
        have hap2 : (gs', er') = (gs, er) := by rw [hap, HAP.out]; unfold apR; rw [applyP_twice]
        cases hap2
        obtain ⟨F, c6, rfl⟩ := own_form ho
        have HO6 : Hid (Row w6 (fun _ => True) 2 (.slice F gs.length c6) gs.length (flatF gs)) := Row.of_own ho (fun _ _ => trivial)
        have HF6 : Hid (Row w6 (fun _ => True) 2 (.slice D gs.length c4) gs.length (flatF gs)) := Row.of_own (own_below HF5.out hb6) (fun _ _ => trivial)
        have HB6 : Hid (Below w.heap.size w w6) := HB5.out.trans (hb6.mono hz5)
        have hz6 := HB6.out.size
        clear ho hap hb6 HF5 HB5 HR5 HO5
        go_wp2_with fail
        refine (files_calls HF6.out HO6.out).mono ?_
        rintro e w7 ⟨rfl, hb7⟩
        have HB7 : Hid (Below w.heap.size w w7) := HB6.out.trans (hb7.mono hz6)
        have hz7 := HB7.out.size
        clear hb7 HF6 HO6
        go_wp2_with (go_at_call 11; refine (HA.out _).mono ?_; rintro e w' ⟨rfl, hb⟩)
        go_ret
        exact ⟨by simp, HB7.out.trans (hb.mono hz7)⟩
end Go.Proofs.Ytnonbonegbdfpaa
