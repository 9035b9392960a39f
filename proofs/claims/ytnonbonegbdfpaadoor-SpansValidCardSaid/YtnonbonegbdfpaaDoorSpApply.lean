/- spans.Apply: what it computes. -/
import Derived.Test.YtnonbonegbdfpaaDoorSpFile
import Derived.Test.YtnonbonegbdfpaaDoorSpRound
import Derived.RangeFuncBox
namespace Go.Proofs.YtnonbonegbdfpaaDoor
open Go Go.RowKit Go.Shelf

attribute [local go_sem] Oper.semAt_some

def ApplyRes (fs : List Fi) (l : List Ed) (w : World) (e : Ending) (w' : World) : Prop :=
  ((∃ gs, applyP fs l = some gs ∧ ∃ u, e = .returned (.tuple #[u, .int .i64 0]) ∧ w'.ownsRow w.heap.size 40 2 u gs.length (flatF gs)) ∨
   (applyP fs l = none ∧ e = .returned (.tuple #[.slice none 0 0, .int .i64 1]))) ∧ Below w.heap.size w w'

theorem zero3 (w : World) : (zeroValue 3).run Tryd.prog w = .ok (.int .i64 0) w := by kernel_rfl
theorem own_lt {w : World} {base : Nat} {e : TypeId} {size n : Nat} {v : Value} {xs : List Value} (h : w.ownsRow base e size v n xs) : ∀ g, v.ownBlock = some g → base ≤ g ∧ g < w.heap.size := by
  intro g hg
  rcases h.2 with ⟨h1, _⟩ | ⟨g', c', cur, h1, h2, h3, _⟩
  · rw [h1] at hg; cases hg
  · rw [h1] at hg; cases hg; exact ⟨h2, (Array.getElem?_eq_some_iff.1 h3).1⟩
theorem Old.alloc {S : Nat → Prop} {w : World} (h : Old S w) (o : Obj) : Old S (w.alloc o) := fun b hb => by have := h b hb; rw [World.size_alloc]; omega

theorem below_drew2 {B : Nat} {a b : World} (h : Below B a b) : Below B a b.drew.drew := ⟨h.os, h.tape, h.output, h.size, h.block⟩
theorem grown_set (w : World) (g o : Nat) (v : Value) : w.grownBy (w.setCell ⟨g, o, none⟩ v) (some g) := ⟨rfl, rfl, rfl, by simp [World.setCell], fun k _ hk => Below.heap_setCell w ⟨g, o, none⟩ v k (fun e => hk (by rw [e]))⟩
theorem own_base {w : World} {base base' : Nat} {e : TypeId} {size n : Nat} {v : Value} {xs : List Value} (h : w.ownsRow base e size v n xs) (hb : base' ≤ base) : w.ownsRow base' e size v n xs := by
  refine ⟨h.1, ?_⟩
  rcases h.2 with ⟨h1, h2⟩ | ⟨g', c', cur, h1, h2, h3⟩
  · exact .inl ⟨h1, h2⟩
  · exact .inr ⟨g', c', cur, h1, by omega, h3⟩
theorem own_kept {w w' : World} {base : Nat} {e : TypeId} {size n : Nat} {v : Value} {xs : List Value} (h : w.ownsRow base e size v n xs) {row : Option Nat} (hg : w.grownBy w' row) (hne : ∀ g, v.ownBlock = some g → some g ≠ row) : w'.ownsRow base e size v n xs := by
  refine h.kept hg ?_
  cases hA : v.ownBlock with
  | none => exact .inl rfl
  | some g => exact .inr (hne g hA)

set_option maxHeartbeats 4000000 in
set_option maxRecDepth 100000 in
theorem apply_calls {fs : List Fi} {l : List Ed} {v u : Value} {w : World} {S : Nat → Prop} (hf : Row w S 2 v fs.length (flatF fs)) (hl : Row w S 4 u l.length (flat l)) (hS : Old S w) (hsafe : okAll (sortd l) = true → Safe fs (sortd l))
    (hb1 : fs.length * 32 ≤ 140737488355328) (hb2 : l.length * 48 ≤ 140737488355328) (hp : ∀ i, i < fs.length → (fAt fs i).p.size ≤ maxLen) (hq : ∀ k, k < (sortd l).length → (backE (sortd l) k).p.size ≤ maxLen) :
    Calls Tryd.prog 17 #[v, u] w (ApplyRes fs l w) := by
  obtain ⟨A, cap, rfl, hlen⟩ := hf.form
  have HF := Lib.hid hf
  have HL := Lib.hid hl
  have HS := Lib.hid hS
  have HSF := Lib.hid hsafe
  have HP := Lib.hid hp
  have HQ := Lib.hid hq
  have HB1 := Lib.hid hb1
  have HB2 := Lib.hid hb2
  obtain ⟨A2, cap2, rfl, hlen2⟩ := hl.form
  clear hf hl hS hsafe hp hq hb1 hb2
  refine callsIn_wide (n := 10).1 ?_
  refine callsIn_of_wp_marks Tryd.func17 rfl trivial ?_ rfl
  simp only [Tryd.ntmps17, List.size_toArray, List.length_cons, List.length_nil, Nat.reduceAdd, Nat.reduceSub, Array.replicate_succ, Array.replicate_zero, List.push_toArray, List.append_toArray, List.nil_append, List.cons_append]
  refine wpIn_wide.2 ?_
  go_wp2_with fail
  have hs3 : SameOn S w (((w.alloc (.cells #[.slice A fs.length cap] 35)).alloc (.cells #[.slice none 0 0] 35)).alloc (.cells #[.int .i64 0] 36)) :=
    (((SameOn.refl S w).alloc HS.out _).alloc (HS.out.alloc _) _).alloc ((HS.out.alloc _).alloc _) _
  have b2 := ((Boxed.new w 35 (.slice A fs.length cap)).alloc (.cells #[.slice none 0 0] 35)).alloc (.cells #[.int .i64 0] 36)
  have b4 := (Boxed.new (w.alloc (.cells #[.slice A fs.length cap] 35)) 35 (.slice none 0 0)).alloc (.cells #[.int .i64 0] 36)
  have b5 := Boxed.new ((w.alloc (.cells #[.slice A fs.length cap] 35)).alloc (.cells #[.slice none 0 0] 35)) 36 (.int .i64 0)
  have hB0 : Below w.heap.size w (((w.alloc (.cells #[.slice A fs.length cap] 35)).alloc (.cells #[.slice none 0 0] 35)).alloc (.cells #[.int .i64 0] 36)) :=
    (((Below.refl _ w).alloc (Nat.le_refl _) _).alloc (by simp) _).alloc (by simp; omega) _
  have hsz0 : (((w.alloc (.cells #[.slice A fs.length cap] 35)).alloc (.cells #[.slice none 0 0] 35)).alloc (.cells #[.int .i64 0] 36)).heap.size = w.heap.size + 3 := by simp
  have HF0 := Lib.hid (HF.out.keep hs3)
  have HL0 := Lib.hid (HL.out.keep hs3)
  simp only [World.size_alloc] at b4 b5
  have HS0 : Hid (Old S (((w.alloc (.cells #[.slice A fs.length cap] 35)).alloc (.cells #[.slice none 0 0] 35)).alloc (.cells #[.int .i64 0] 36))) := HS.out.below hB0
  generalize hW0 : (((w.alloc (.cells #[.slice A fs.length cap] 35)).alloc (.cells #[.slice none 0 0] 35)).alloc (.cells #[.int .i64 0] 36)) = W0 at *
  clear hW0 hs3
  refine (sorted_calls HB2.out HL0.out HS0.out).mono ?_
  rintro e w1 ⟨hres, hb1⟩
  obtain ⟨c, A3, cap3, e0, rfl, ho1, hcase⟩ : ∃ c A3 cap3 e0, e = .returned (.tuple #[.slice A3 c.length cap3, .int .i64 e0]) ∧ w1.ownsRow W0.heap.size 42 4 (.slice A3 c.length cap3) c.length (flat c) ∧
      ((okAll (sortd l) = true ∧ c = sortd l ∧ e0 = 0) ∨ (okAll (sortd l) = false ∧ c = [] ∧ e0 = 1)) := by
    rcases hres with ⟨h1, u, rfl, h2⟩ | ⟨h1, rfl⟩
    · obtain ⟨A3, cap3, rfl⟩ := own_form h2
      exact ⟨_, _, _, _, rfl, h2, .inl ⟨h1, rfl, rfl⟩⟩
    · exact ⟨[], none, 0, 1, rfl, World.ownsRow_nil _ _ _ _, .inr ⟨h1, rfl, rfl⟩⟩
  have HC := Lib.hid hcase
  have HO1 := Lib.hid ho1
  have HW1 := Lib.hid hb1
  have hz1 := hb1.size
  have b2' := b2.kept (grown_of_below hb1 none) (by simp)
  have b4' := b4.kept (grown_of_below hb1 none) (by simp)
  have b5' := b5.kept (grown_of_below hb1 none) (by simp)
  have HF1 := Lib.hid (HF0.out.keep (SameOn.of_below hb1 HS0.out))
  have HS1 := Lib.hid (HS0.out.below hb1)
  clear hcase ho1 hb1 hres b2 b4 b5 HF0 HL0 HS0
  have c2 := b2'.cell
  go_wp2_with fail
  refine (clone_files w1 S _ _ _ HF1.out HS1.out (flatF_one fs) HB1.out).mono ?_
  rintro e w2 ⟨v2, rfl, ho2, -, hb2⟩
  obtain ⟨A4, cap4, rfl⟩ := own_form ho2
  have hz2 := hb2.size
  have d2 := b2'.kept (grown_of_below hb2 none) (by simp)
  have d4 := b4'.kept (grown_of_below hb2 none) (by simp)
  have d5 := b5'.kept (grown_of_below hb2 none) (by simp)
  have HO2 := Lib.hid ho2
  have HO1' : Hid (w2.ownsRow W0.heap.size 42 4 (.slice A3 c.length cap3) c.length (flat c)) := own_below HO1.out hb2
  have HF2 := Lib.hid (HF1.out.keep (SameOn.of_below hb2 HS1.out))
  have HS2 := Lib.hid (HS1.out.below hb2)
  have HW2 : Hid (Below w.heap.size w w2) := (hB0.trans (HW1.out.mono (by omega))).trans (hb2.mono (by omega))
  have HLT : Hid (∀ g, (Value.slice A3 c.length cap3).ownBlock = some g → W0.heap.size ≤ g ∧ g < w1.heap.size) := own_lt HO1.out
  have HLT2 : Hid (∀ g, (Value.slice A4 fs.length cap4).ownBlock = some g → w1.heap.size ≤ g ∧ g < w2.heap.size) := own_lt ho2
  clear hb2 ho2 b2' b4' b5' HO1 HF1 HS1 HW1 c2
  have hmm := @run_makeMap Tryd.prog
  have c2 := (((d2.alloc (.cells #[.slice A4 fs.length cap4] 35)).alloc (.map #[] 0)).alloc (.cells #[.map (some (w2.heap.size + 1))] 52)).cell
  go_wp2_with fail
  clear c2
  have HG0 : Hid (w2.grownBy (((w2.alloc (.cells #[.slice A4 fs.length cap4] 35)).alloc (.map #[] 0)).alloc (.cells #[.map (some (w2.heap.size + 1))] 52)) none) :=
    ((World.grownBy_alloc w2 _ none).trans (World.grownBy_alloc _ _ none)).trans (World.grownBy_alloc _ _ none)
  have e2 := d2.kept HG0.out (by simp)
  have e4 := d4.kept HG0.out (by simp)
  have e5 := d5.kept HG0.out (by simp)
  have e7 := ((Boxed.new w2 35 (.slice A4 fs.length cap4)).alloc (.map #[] 0)).alloc (.cells #[.map (some (w2.heap.size + 1))] 52)
  have e8 := Boxed.new ((w2.alloc (.cells #[.slice A4 fs.length cap4] 35)).alloc (.map #[] 0)) 52 (.map (some (w2.heap.size + 1)))
  have HM : Hid ((((w2.alloc (.cells #[.slice A4 fs.length cap4] 35)).alloc (.map #[] 0)).alloc (.cells #[.map (some (w2.heap.size + 1))] 52)).ownsMap Tryd.prog 9 (plainElem (H := Unit) Tryd.prog 3) (w2.heap.size + 1) 0 (mapJ fs 0)) := by
    have := (World.ownsMap_made (w2.alloc (.cells #[.slice A4 fs.length cap4] 35)) Tryd.prog 9 (plainElem (H := Unit) Tryd.prog 3)).alloc (.cells #[.map (some (w2.heap.size + 1))] 52)
    rw [World.size_alloc] at this
    exact this
  have hbw : Below w2.heap.size w2 (((w2.alloc (.cells #[.slice A4 fs.length cap4] 35)).alloc (.map #[] 0)).alloc (.cells #[.map (some (w2.heap.size + 1))] 52)) :=
    (((Below.refl _ w2).alloc (Nat.le_refl _) _).alloc (by simp) _).alloc (by simp; omega) _
  have HO3 := Lib.hid (own_below HO2.out hbw)
  have HE3 := Lib.hid (own_below HO1'.out hbw)
  have HF3 := Lib.hid (HF2.out.keep (SameOn.of_below hbw HS2.out))
  have HW3 : Hid (Below w.heap.size w (((w2.alloc (.cells #[.slice A4 fs.length cap4] 35)).alloc (.map #[] 0)).alloc (.cells #[.map (some (w2.heap.size + 1))] 52))) := HW2.out.trans (hbw.mono (by omega))
  have HS3 := Lib.hid (HS2.out.below hbw)
  have hsz3 : (((w2.alloc (.cells #[.slice A4 fs.length cap4] 35)).alloc (.map #[] 0)).alloc (.cells #[.map (some (w2.heap.size + 1))] 52)).heap.size = w2.heap.size + 3 := by simp
  simp only [World.size_alloc] at e8
  clear d2 d4 d5 HG0 HO2 HO1' HF2 HW2 hbw
  generalize hW3 : ((w2.alloc (.cells #[.slice A4 fs.length cap4] 35)).alloc (.map #[] 0)).alloc (.cells #[.map (some (w2.heap.size + 1))] 52) = W3 at *
  clear hW3
  have HE2 := Lib.hid e2
  have HE4 := Lib.hid e4
  have HE5 := Lib.hid e5
  have HE7 := Lib.hid e7
  have HE8 := Lib.hid e8
  clear e2 e4 e5 e7 e8
  go_loopg [28] fs.length (fun d i wr => ∃ (j : Nat), d = fs.length - j ∧ j ≤ fs.length ∧ i = .int .i64 j ∧ Hid (∀ i, i < j → lookJ fs (fAt fs i).p i = none) ∧
    Hid (wr.ownsMap Tryd.prog 9 (plainElem (H := Unit) Tryd.prog 3) (w2.heap.size + 1) j (mapJ fs j)) ∧ Hid (W3.grownBy wr (some (w2.heap.size + 1))) ∧ Hid (Below w.heap.size w wr))
  case atStart => exact ⟨0, by simp, by omega, rfl, fun i h => by omega, HM.out, ⟨rfl, rfl, rfl, Nat.le_refl _, fun _ _ _ => rfl⟩, HW3.out⟩
  case round =>
    obtain ⟨j, rfl, hj, rfl, HN, HMJ, HG, HBW⟩ := hrel
    have g2 := HE2.out.kept HG.out (by simp; omega)
    have g4 := HE4.out.kept HG.out (by simp; omega)
    have g5 := HE5.out.kept HG.out (by simp; omega)
    have g7 := HE7.out.kept HG.out (by simp)
    have g8 := HE8.out.kept HG.out (by simp)
    by_cases hlt : j < fs.length
    · have hFw : Row wr S 2 (.slice A fs.length cap) fs.length (flatF fs) := HF3.out.keep (SameOn.of_grown HG.out HS3.out (fun b hb e => by
        cases e; have := HS.out _ hb; omega))
      obtain ⟨b, o, rfl, -, hnc, a0, a1⟩ := row_at2 hFw hlt rfl
      have hjl : j < maxLen := by
        have := HB1.out
        unfold maxLen; omega
      have hkl : fs[j].p.size ≤ maxLen := by
        have := HP.out j hlt
        rwa [fAt_at hlt] at this
      have hkey : keyOf Tryd.prog 9 (.string fs[j].p) = some (keyP fs[j].p) := WideMaps.keyOf_string_mk Tryd.underlying9 hkl
      have hval := plainElem_int (H := Unit) Tryd.underlying3 (i64_wf (n := j) (by omega))
      have hown := HMJ.out.alloc (.cells #[.string fs[j].p, .string fs[j].tx] 40)
      have c8 := (g8.alloc (.cells #[.string fs[j].p, .string fs[j].tx] 40)).cell
      have x4 := g4.alloc (.cells #[.string fs[j].p, .string fs[j].tx] 40)
      have x5 := g5.alloc (.cells #[.string fs[j].p, .string fs[j].tx] 40)
      have hhas := mapJ_has fs fs[j].p j
      cases hlk : lookJ fs fs[j].p j with
      | some i =>
        rw [hlk] at hhas
        simp only [Option.isSome] at hhas
        clear hFw hkl
        have c4 := x4.cell
        have f4 := x4.frozen
        have c5 := (x5.other (B' := w.heap.size + 1) (by simp) (.slice none 0 0)).cell
        have f5 := (x5.other (B' := w.heap.size + 1) (by simp) (.slice none 0 0)).frozen
        go_wp2_with (at_lookup; refine wpList_lookup_own_ok_int _ rfl _ _ 52 rfl 9 3 .i64 (Maps.string_keyed Tryd.underlying9) Tryd.underlying52 Tryd.underlying3 (zero3 _) (w2.heap.size + 1) j _ rfl hown _ _ rfl hkey ?_; intro ci hat hwc)
        have HDUP : Hid (applyP fs l = none) := by
          unfold Hid applyP
          rw [if_pos (dup_at hlt (by rw [fAt_at hlt, hlk]; rfl))]
        have HX4 := Lib.hid ((x4.set (.slice none 0 0)).other (B' := w.heap.size + 1 + 1) (by simp) (.int .i64 1)).cell
        have HX5 := Lib.hid ((x5.other (B' := w.heap.size + 1) (by simp) (.slice none 0 0)).set (.int .i64 1)).cell
        have hbw : Below w.heap.size w (((wr.alloc (.cells #[.string fs[j].p, .string fs[j].tx] 40)).setCell ⟨w.heap.size + 1, 0, none⟩ (.slice none 0 0)).setCell ⟨w.heap.size + 1 + 1, 0, none⟩ (.int .i64 1)) :=
          ((HBW.out.alloc HBW.out.size _).setCell (Nat.le_succ _) _).setCell (Nat.le_add_right _ 2) _
        have r4 := HX4.out
        have r5 := HX5.out
        refine ⟨.tuple #[.slice none 0 0, .int .i64 1], by simp [results, Tryd.f17, go_sem, r4, r5], .inr ⟨HDUP.out, rfl⟩, hbw⟩
      | none =>
        rw [hlk] at hhas
        simp only [Option.isSome] at hhas
        clear hFw hkl
        go_wp2_with (first
          | (at_lookup; refine wpList_lookup_own_ok_int _ rfl _ _ 52 rfl 9 3 .i64 (Maps.string_keyed Tryd.underlying9) Tryd.underlying52 Tryd.underlying3 (zero3 _) (w2.heap.size + 1) j _ rfl hown _ _ rfl hkey ?_; intro ci hat hwc)
          | (at_mapUpdate; refine wpList_mapUpdate_own _ rfl _ _ _ 52 rfl 9 3 (Maps.string_keyed Tryd.underlying9) Tryd.underlying52 _ (w2.heap.size + 1) j _ rfl hown hjl _ _ _ rfl rfl hkey _ [] hval ?_; intro wm hownm hgrm))
        go_roundg (fs.length - (j + 1))
        case measure => omega
        case rel => 
          refine ⟨j + 1, rfl, by omega, by go_num, ?_, ?_, HG.out.trans ((World.grownBy_alloc wr _ _).trans hgrm), (HBW.out.alloc HBW.out.size _).grown hgrm ?_ ?_⟩
          · intro i hi
            by_cases e : i < j
            · exact HN.out i e
            · obtain rfl : i = j := by omega
              rw [fAt_at hlt]; exact hlk
          · unfold Hid mapJ; rw [fAt_at hlt]; exact hownm
          · have := HBW.out.size; simp; omega
          · intro k e; cases e; have := HG.out.size; omega
    · have hje : j = fs.length := by omega
      have hge : ¬(j : Int) < (fs.length : Int) := by omega
      have HDUP : Hid (dupF fs = false) := dup_pre (fun i hi => HN.out i (by omega))
      have HMN : Hid (wr.ownsMap Tryd.prog 9 (plainElem (H := Unit) Tryd.prog 3) (w2.heap.size + 1) fs.length (mapJ fs fs.length)) := by rw [← hje]; exact HMJ.out
      have HOR : Hid (wr.ownsRow w1.heap.size 40 2 (.slice A4 fs.length cap4) fs.length (flatF fs)) := HO3.out.kept HG.out (.inr (fun e => by have := HLT2.out _ e; omega))
      have HER : Hid (wr.ownsRow W0.heap.size 42 4 (.slice A3 c.length cap3) c.length (flat c)) := HE3.out.kept HG.out (.inr (fun e => by have := HLT.out _ e; omega))
      have HFR : Hid (Row wr S 2 (.slice A fs.length cap) fs.length (flatF fs)) := HF3.out.keep (SameOn.of_grown HG.out HS3.out (fun b hb e => by
        cases e; have := HS.out _ hb; omega))
      have hzr := HG.out.size
      clear HN HMJ HO3 HE3 HF3 HG HE2 HE4 HE5 HE7 HE8 HM HW3 HS3 hje
      go_wp2_with fail
      refine ((callsIn_wide (n := 9)).1 (back_in Fence.wide 9 trivial rfl _ _ _ _)).mono ?_
      rintro e wx ⟨rfl, rfl⟩
      go_wp2_with fail
      have hzl : (wr.alloc (.cells #[.slice A3 c.length cap3] 43)).heap.size = wr.heap.size + 1 := by simp
      have HOL := Lib.hid (HOR.out.alloc (.cells #[.slice A3 c.length cap3] 43))
      have HEL := Lib.hid (HER.out.alloc (.cells #[.slice A3 c.length cap3] 43))
      have HFL := Lib.hid (HFR.out.keep ((SameOn.refl S wr).alloc (HS.out.below HBW.out) (.cells #[.slice A3 c.length cap3] 43)))
      have HML := Lib.hid (HMN.out.alloc (.cells #[.slice A3 c.length cap3] 43))
      have HBL := Lib.hid (HBW.out.alloc HBW.out.size (.cells #[.slice A3 c.length cap3] 43))
      have l2 := g2.alloc (.cells #[.slice A3 c.length cap3] 43)
      have l4 := g4.alloc (.cells #[.slice A3 c.length cap3] 43)
      have l5 := g5.alloc (.cells #[.slice A3 c.length cap3] 43)
      have l7 := g7.alloc (.cells #[.slice A3 c.length cap3] 43)
      have l8 := g8.alloc (.cells #[.slice A3 c.length cap3] 43)
      have lb := Boxed.new wr 43 (.slice A3 c.length cap3)
      have hS' : Old (fun b => (Value.slice A3 c.length cap3).ownBlock = some b ∨ b = wr.heap.size) (wr.alloc (.cells #[.slice A3 c.length cap3] 43)) := by
        rintro b (h | rfl)
        · have := HLT.out _ h; omega
        · omega
      clear HOR HER HFR HMN HBW g2 g4 g5 g7 g8
      generalize hWl : (wr.alloc (.cells #[.slice A3 c.length cap3] 43)) = Wl at *
      clear hWl
      have hlc : c.length * 48 ≤ 140737488355328 := by
        rcases HC.out with ⟨-, e, -⟩ | ⟨-, e, -⟩
        · have := sortd_len l; have := HB2.out; rw [e]; omega
        · rw [e]; simp
      refine wpIn_wide.1 (wpIn_range_at (F := Fence.wide) (n := 10) (gf := 42) (lb := #[.pointer (some ⟨wr.heap.size, 0, none⟩)]) rfl (by omega) rfl trivial (enters_of Tryd.func42 (by kernel_rfl) rfl)
        (back_at Fence.wide 9 trivial rfl (by omega) wr.heap.size c.length cap3 A3 (fun b => (Value.slice A3 c.length cap3).ownBlock = some b ∨ b = wr.heap.size) c hlc Wl (.inr rfl) hS' lb.cell HEL.out (fun g h => .inl h))
        (fun h k => h.trans k) (fun W r o o' h1 h2 h3 b hb => World.putObj_heap_other (by have := hS' b hb; omega)) (Below.refl _ _) (fun _ => rfl)
        (fun k W => ∃ gs, runK fs c k = some gs ∧ ((Boxed W w.heap.size 35 (.slice A fs.length cap) ∧ Boxed W (w.heap.size + 1) 35 (.slice none 0 0) ∧ Boxed W (w.heap.size + 1 + 1) 36 (.int .i64 0) ∧
          Boxed W w2.heap.size 35 (.slice A4 fs.length cap4) ∧ Boxed W (w2.heap.size + 1 + 1) 52 (.map (some (w2.heap.size + 1)))) ∧
          W.ownsMap Tryd.prog 9 (plainElem (H := Unit) Tryd.prog 3) (w2.heap.size + 1) fs.length (mapJ fs fs.length) ∧ Row W S 2 (.slice A fs.length cap) fs.length (flatF fs) ∧
          W.ownsRow w1.heap.size 40 2 (.slice A4 fs.length cap4) fs.length (flatF gs)) ∧ Wl.heap.size ≤ W.heap.size ∧ Below w.heap.size w W)
        (fun k W => runK fs c (k + 1) = none ∧ Boxed W (w.heap.size + 1) 35 (.slice none 0 0) ∧ Boxed W (w.heap.size + 1 + 1) 36 (.int .i64 1) ∧ Below w.heap.size w W)
        (fun k a' W => ∃ Bx, Wl.heap.size ≤ Bx ∧ Blk W Bx 42 #[.string (backE c k).p, .int .i64 (backE c k).fr, .int .i64 (backE c k).to, .string (backE c k).tx] ∧ a' = { tmps := #[.slice A fs.length cap, .slice A3 c.length cap3, .pointer (some ⟨w.heap.size, 0, none⟩), undef, .pointer (some ⟨w.heap.size + 1, 0, none⟩), .pointer (some ⟨w.heap.size + 1 + 1, 0, none⟩), .int .i64 e0,
          .pointer (some ⟨w2.heap.size, 0, none⟩), .pointer (some ⟨w2.heap.size + 1 + 1, 0, none⟩), u9, u10, u11, u12, undef, .pointer (some ⟨Bx, 0, none⟩), undef, undef, undef, .tuple #[.slice A3 c.length cap3, .int .i64 e0], .slice A2 l.length cap2, .tuple #[.slice A3 c.length cap3, .int .i64 e0],
          .slice A3 c.length cap3, .int .i64 e0, .slice A fs.length cap, .slice A4 fs.length cap4, .map (some (w2.heap.size + 1)), .slice A fs.length cap, .int .i64 fs.length, .int .i64 j, .bool false, u30, u31, u32, u33, u34, u35,
          u36, u37, u38, u39, u40, u41, u42, u43, u44, u45, .slice A3 c.length cap3, .func (.func 42) #[] #[.pointer (some ⟨wr.heap.size, 0, none⟩)], .int .i64 ((c.length - 1 - k : Nat) : Int), .agg #[.string (backE c k).p, .int .i64 (backE c k).fr, .int .i64 (backE c k).to, .string (backE c k).tx], undef, undef, undef, undef, undef, undef, undef, undef, undef, undef, undef, undef, undef, undef, undef, undef, undef, undef, undef, undef, undef, undef, undef, undef, undef, undef, undef, undef, undef, undef, undef, undef, undef, undef, undef, undef, undef, undef, undef, undef, undef, undef, undef, undef, undef], defers := [] })
        ?hI ?hIx ?hAx ⟨fs, rfl, ⟨⟨l2, l4, l5, l7, l8⟩, HML.out, HFL.out, HOL.out⟩, Nat.le_refl _, HBL.out⟩ ?assign ?body ?done ?stop)
      case hI =>
        rintro k X Y row ⟨gs, hrk, ⟨⟨q2, q4, q5, q7, q8⟩, hm, hf, ho⟩, hz, hB⟩ hg hr
        have hne : ∀ B, B < Wl.heap.size → some B ≠ row := fun B h e => by have := (hr _ e.symm).1; omega
        refine ⟨gs, hrk, ⟨⟨q2.kept hg (hne _ l2.lt), q4.kept hg (hne _ l4.lt), q5.kept hg (hne _ l5.lt), q7.kept hg (hne _ l7.lt), q8.kept hg (hne _ l8.lt)⟩, hm.kept hg (hne _ HML.out.lt),
          hf.keep (SameOn.of_grown hg (HS.out.below hB) (fun b hb => hne _ (by have := HS.out b hb; have := l2.lt; omega))), ho.kept hg ?_⟩, Nat.le_trans hz hg.size, hB.grown hg hB.size (fun r e => by have := (hr _ e).1; have := l2.lt; omega)⟩
        cases hA : (Value.slice A4 fs.length cap4).ownBlock with
        | none => exact .inl rfl
        | some g => exact .inr (hne g (by have := HLT2.out g hA; have := l7.lt; omega))
      case hIx =>
        rintro k X Y row ⟨hrk, q4, q5, hB⟩ hg hr
        have hne : ∀ B, B < Wl.heap.size → some B ≠ row := fun B h e => by have := (hr _ e.symm).1; omega
        exact ⟨hrk, q4.kept hg (hne _ l4.lt), q5.kept hg (hne _ l5.lt), hB.grown hg hB.size (fun r e => by have := (hr _ e).1; have := l2.lt; omega)⟩
      case hAx =>
        rintro k a' _ X Y row ⟨Bx, x1, x2, x3⟩ hg hr
        refine ⟨Bx, x1, x2.grown hg (fun e => ?_), x3⟩
        obtain ⟨-, o, h1, h2⟩ := hr _ e.symm
        rw [x2] at h1
        cases h1
        cases h2
      case assign =>
        rintro lp k W K hk ⟨gs, hrk, ⟨⟨q2, q4, q5, q7, q8⟩, hm, hf, ho⟩, hz, hB⟩ hK
        simp only [encE]
        gi_wp2
        exact hK _ _ ((KeepsOthers.alloc _ _).from _) ((SameOn.refl _ W).alloc (fun b hb => Nat.lt_of_lt_of_le (hS' b hb) hz) _)
          ⟨gs, hrk, ⟨⟨q2.alloc _, q4.alloc _, q5.alloc _, q7.alloc _, q8.alloc _⟩, hm.alloc _, hf.keep ((SameOn.refl _ W).alloc (HS.out.below hB) _), ho.alloc _⟩, by simp; omega, hB.alloc hB.size _⟩
          ⟨W.heap.size, hz, Blk.new W _ _, rfl⟩
      case body =>
        rintro lp k a' W hk ⟨gs, hrk, ⟨⟨q2, q4, q5, q7, q8⟩, hm, hf, ho⟩, hz, hB⟩ ⟨Bx, hBx, xb, rfl⟩
        obtain ⟨hok, hcl⟩ : okAll (sortd l) = true ∧ c = sortd l := by
          rcases HC.out with ⟨h1, h2, -⟩ | ⟨-, h2, -⟩
          · exact ⟨h1, h2⟩
          · rw [h2] at hk; exact absurd hk (by simp)
        have hps : (backE c k).p.size ≤ maxLen := by rw [hcl] at hk ⊢; exact HQ.out k hk
        have hsf : ∀ i, lookJ fs (backE c k).p fs.length = some i → (backE c k).to ≤ ((fAt fs i).tx.size : Int) → gs.length = fs.length ∧ 0 ≤ (backE c k).fr ∧ (backE c k).fr ≤ (backE c k).to ∧ (backE c k).to ≤ ((fAt gs i).tx.size : Int) ∧ (spl (fAt gs i).tx (backE c k)).size ≤ 140737488355328 := by
          rw [hcl] at hk hrk ⊢
          exact fun i => HSF.out hok k gs i hk hrk
        have hst : ∀ r, stepE fs (backE c k) gs = r → runK fs c (k + 1) = r := fun r h => by unfold runK; rw [hrk]; exact h
        have HRK := Lib.hid hrk
        have HST := Lib.hid hst
        have HSFK := Lib.hid hsf
        have HFL2 := Lib.hid hf
        have HOL2 := Lib.hid ho
        have HBL2 := Lib.hid hB
        clear hok hcl hrk hst hsf hf ho hB
        obtain ⟨X, hX⟩ : ∃ X, backE c k = X := ⟨_, rfl⟩
        rw [hX] at hps xb HST HSFK ⊢
        clear hX
        have x0 : W.cell? ⟨Bx, 0, none⟩ = some (.string X.p) := xb.cell 0
        have x1 : W.cell? ⟨Bx, 1, none⟩ = some (.int .i64 X.fr) := xb.cell 1
        have x2 : W.cell? ⟨Bx, 2, none⟩ = some (.int .i64 X.to) := xb.cell 2
        have x3 : W.cell? ⟨Bx, 3, none⟩ = some (.string X.tx) := xb.cell 3
        have hkey : keyOf Tryd.prog 9 (.string X.p) = some (keyP X.p) := WideMaps.keyOf_string_mk Tryd.underlying9 hps
        have hhas := mapJ_has fs X.p fs.length
        have c8 := q8.cell
        cases hlk : lookJ fs X.p fs.length with
        | none =>
          rw [hlk] at hhas
          simp only [Option.isSome] at hhas
          have c4 := q4.cell
          have f4 := q4.frozen
          have c5 := (q5.other (B' := w.heap.size + 1) (by simp) (.slice none 0 0)).cell
          have f5 := (q5.other (B' := w.heap.size + 1) (by simp) (.slice none 0 0)).frozen
          gi_wp2_with (gi_at_lookup; refine wpListIn_lookup_own_ok_int _ rfl _ _ 52 rfl 9 3 .i64 (Maps.string_keyed Tryd.underlying9) Tryd.underlying52 Tryd.underlying3 (zero3 _) (w2.heap.size + 1) fs.length _ rfl hm _ _ rfl hkey ?_; intro ci hat hwc)
          refine region_round (S := fun w' => w'.cell? ⟨Bx, 2, none⟩ = some (.int .i64 X.to)) (by kernel_rfl) (by kernel_rfl) (by rintro ⟨_, _, h⟩; exact h) x2 (fun hHeld => ?_)
          refine wpAnyH_take (i := 0) (v := ?_) rfl (by kernel_rfl) (by kernel_rfl) (by kernel_rfl) (fun _ _ _ h => h) (Or.inl ⟨by rfl, ?_⟩) (by assumption) ?_
          rotate_left
          · intro V hSw
            try dsimp only at hSw
            try simp only [List.getElem_toArray, List.getElem_cons_zero]
            go_simp
            first | done | rfl
          try simp only [Act.put, List.getElem_toArray, List.getElem_cons_zero, List.setIfInBounds_toArray, List.set_cons_zero, List.set_cons_succ]
          refine wpAnyH_take (i := 1) (v := ?_) rfl (by kernel_rfl) (by kernel_rfl) (by kernel_rfl) (fun _ _ _ h => h) (Or.inl ⟨by rfl, ?_⟩) (by assumption) ?_
          rotate_left
          · intro V hSw
            try dsimp only at hSw
            try simp only [List.getElem_toArray, List.getElem_cons_zero, List.getElem_cons_succ]
            go_simp
            first | done | rfl
          try simp only [Act.put, List.getElem_toArray, List.getElem_cons_zero, List.getElem_cons_succ, List.setIfInBounds_toArray, List.set_cons_zero, List.set_cons_succ]
          refine wpAnyH_take (i := 2) (v := ?_) rfl (by kernel_rfl) (by kernel_rfl) (by kernel_rfl) (fun _ _ _ h => h) (Or.inl ⟨by rfl, ?_⟩) (by assumption) ?_
          rotate_left
          · intro V hSw
            try dsimp only at hSw
            try simp only [List.getElem_toArray, List.getElem_cons_zero, List.getElem_cons_succ]
            go_simp
            first | done | rfl
          try simp only [Act.put, List.getElem_toArray, List.getElem_cons_zero, List.getElem_cons_succ, List.setIfInBounds_toArray, List.set_cons_zero, List.set_cons_succ]
          refine wpAnyH_take (i := 3) (v := undef) rfl (by kernel_rfl) (by kernel_rfl) (by kernel_rfl) (fun _ _ _ h => h) (Or.inr ⟨by rfl, rfl⟩) (by assumption) ?_
          try simp only [Act.put, List.getElem_toArray, List.getElem_cons_zero, List.getElem_cons_succ, List.setIfInBounds_toArray, List.set_cons_zero, List.set_cons_succ]
          refine wpAnyH_take (i := 4) (v := undef) rfl (by kernel_rfl) (by kernel_rfl) (by kernel_rfl) (fun _ _ _ h => h) (Or.inr ⟨by rfl, rfl⟩) (by assumption) ?_
          try simp only [Act.put, List.getElem_toArray, List.getElem_cons_zero, List.getElem_cons_succ, List.setIfInBounds_toArray, List.set_cons_zero, List.set_cons_succ]
          refine wpAnyH_take (i := 5) (v := undef) rfl (by kernel_rfl) (by kernel_rfl) (by kernel_rfl) (fun _ _ _ h => h) (Or.inr ⟨by rfl, rfl⟩) (by assumption) ?_
          try simp only [Act.put, List.getElem_toArray, List.getElem_cons_zero, List.getElem_cons_succ, List.setIfInBounds_toArray, List.set_cons_zero, List.set_cons_succ]
          refine wpAnyH_take (i := 6) (v := undef) rfl (by kernel_rfl) (by kernel_rfl) (by kernel_rfl) (fun _ _ _ h => h) (Or.inr ⟨by rfl, rfl⟩) (by assumption) ?_
          try simp only [Act.put, List.getElem_toArray, List.getElem_cons_zero, List.getElem_cons_succ, List.setIfInBounds_toArray, List.set_cons_zero, List.set_cons_succ]
          refine wpAnyH_take (i := 7) (v := undef) rfl (by kernel_rfl) (by kernel_rfl) (by kernel_rfl) (fun _ _ _ h => h) (Or.inr ⟨by rfl, rfl⟩) (by assumption) ?_
          try simp only [Act.put, List.getElem_toArray, List.getElem_cons_zero, List.getElem_cons_succ, List.setIfInBounds_toArray, List.set_cons_zero, List.set_cons_succ]
          refine wpAnyH_take (i := 8) (v := undef) rfl (by kernel_rfl) (by kernel_rfl) (by kernel_rfl) (fun _ _ _ h => h) (Or.inr ⟨by rfl, rfl⟩) (by assumption) ?_
          try simp only [Act.put, List.getElem_toArray, List.getElem_cons_zero, List.getElem_cons_succ, List.setIfInBounds_toArray, List.set_cons_zero, List.set_cons_succ]
          refine wpAnyH_take (i := 9) (v := undef) rfl (by kernel_rfl) (by kernel_rfl) (by kernel_rfl) (fun _ _ _ h => h) (Or.inr ⟨by rfl, rfl⟩) (by assumption) ?_
          try simp only [Act.put, List.getElem_toArray, List.getElem_cons_zero, List.getElem_cons_succ, List.setIfInBounds_toArray, List.set_cons_zero, List.set_cons_succ]
          refine wpAnyH_take (i := 10) (v := undef) rfl (by kernel_rfl) (by kernel_rfl) (by kernel_rfl) (fun _ _ _ h => h) (Or.inr ⟨by rfl, rfl⟩) (by assumption) ?_
          try simp only [Act.put, List.getElem_toArray, List.getElem_cons_zero, List.getElem_cons_succ, List.setIfInBounds_toArray, List.set_cons_zero, List.set_cons_succ]
          refine wpAnyH_take (i := 11) (v := undef) rfl (by kernel_rfl) (by kernel_rfl) (by kernel_rfl) (fun _ _ _ h => h) (Or.inr ⟨by rfl, rfl⟩) (by assumption) ?_
          try simp only [Act.put, List.getElem_toArray, List.getElem_cons_zero, List.getElem_cons_succ, List.setIfInBounds_toArray, List.set_cons_zero, List.set_cons_succ]
          refine wpAnyH_take (i := 12) (v := ?_) rfl (by kernel_rfl) (by kernel_rfl) (by kernel_rfl) (fun _ _ _ h => h) (Or.inl ⟨by rfl, ?_⟩) (by assumption) ?_
          rotate_left
          · intro V hSw
            try dsimp only at hSw
            try simp only [List.getElem_toArray, List.getElem_cons_zero, List.getElem_cons_succ]
            go_simp
            first | done | rfl
          try simp only [Act.put, List.getElem_toArray, List.getElem_cons_zero, List.getElem_cons_succ, List.setIfInBounds_toArray, List.set_cons_zero, List.set_cons_succ]
          refine wpAnyH_done (by kernel_rfl) ?_ _
          gi_wp2_with fail
          exact ⟨(((KeepsOthers.setCell W ⟨w.heap.size + 1, 0, none⟩ (.slice none 0 0)).trans (KeepsOthers.setCell _ ⟨w.heap.size + 1 + 1, 0, none⟩ (.int .i64 1))).trans (KeepsOthers.drew _)).from _, HST.out _ (by unfold stepE; rw [hlk]),
            (q4.set (.slice none 0 0)).other (B' := w.heap.size + 1 + 1) (by simp) (.int .i64 1), (q5.other (B' := w.heap.size + 1) (by simp) (.slice none 0 0)).set (.int .i64 1),
            ((HBL2.out.setCell (p := ⟨w.heap.size + 1, 0, none⟩) (Nat.le_succ _) (.slice none 0 0)).setCell (p := ⟨w.heap.size + 1 + 1, 0, none⟩) (Nat.le_add_right _ 2) (.int .i64 1)).trans ⟨rfl, rfl, rfl, Nat.le_refl _, fun _ _ => rfl⟩⟩
        | some i =>
          rw [hlk] at hhas
          simp only [Option.isSome] at hhas
          obtain ⟨hil, -⟩ := lookJ_lt hlk
          obtain ⟨b, o, rfl, -, hnc, a0, a1⟩ := row_at2 HFL2.out hil rfl
          have c2 := q2.cell
          have hfi := fAt_at hil
          by_cases hto : X.to ≤ ((fAt fs i).tx.size : Int)
          · obtain ⟨hgl, h0, h1, h2, h3⟩ := HSFK.out i hlk hto
            have hig : i < gs.length := by omega
            obtain ⟨g, _, hv, -⟩ := HOL2.out.form (by omega)
            cases hv
            have hgb := HLT2.out g rfl
            obtain ⟨o0, o1⟩ := own_at2 HOL2.out hig hgl
            have o2 := HOL2.out.frozenAt (i * 2 + 1)
            have HS1 : Hid (stepE fs X gs = some (gs.set i ⟨gs[i].p, spl gs[i].tx X⟩)) := by
              unfold Hid stepE; rw [hlk]; exact (if_pos hto).trans (by rw [fAt_at hig])
            rw [fAt_at hig] at h2 h3
            rw [hfi] at hto
            have HLE := Lib.hid h3
            obtain ⟨fn, hfn⟩ : ∃ fn : Nat, X.fr = fn := ⟨X.fr.toNat, by omega⟩
            obtain ⟨tn, htn⟩ : ∃ tn : Nat, X.to = tn := ⟨X.to.toNat, by omega⟩
            have HSPL : Hid (spl gs[i].tx X = joinB [gs[i].tx.extract 0 fn, X.tx, gs[i].tx.extract tn gs[i].tx.size]) := by
              unfold Hid spl; rw [hfn, htn]; rfl
            rw [hfn] at x1
            rw [htn] at x2 hto h2
            rw [hfn, htn] at h1
            have hft : fn ≤ tn := by omega
            have hts : tn ≤ gs[i].tx.size := by omega
            have hfs : fn ≤ gs[i].tx.size := by omega
            have hle : ¬((tn : Int) > (fs[i].tx.size : Int)) := by omega
            clear h0 h1 h2 h3 hfi hfn htn hto
            have c7 := q7.cell
            gi_wp2_with (gi_at_lookup; refine wpListIn_lookup_own_ok_int _ rfl _ _ 52 rfl 9 3 .i64 (Maps.string_keyed Tryd.underlying9) Tryd.underlying52 Tryd.underlying3 (zero3 _) (w2.heap.size + 1) fs.length _ rfl hm _ _ rfl hkey ?_; intro ci hat hwc)
            rw [mapJ_at, hlk] at hat
            obtain rfl : (i : Int) = ci := by simpa using hat
            refine region_round (S := fun w' => w'.cell? ⟨Bx, 2, none⟩ = some (.int .i64 tn) ∧ w'.cell? ⟨w.heap.size, 0, none⟩ = some (.slice (some ⟨b, o, none⟩) fs.length cap) ∧ w'.cell? ⟨b, o + i * 2 + 1, none⟩ = some (.string fs[i].tx)) (by kernel_rfl) (by kernel_rfl) (by rintro ⟨_, _, h⟩; exact h) ⟨x2, c2, a1⟩ (fun hHeld => ?_)
            refine wpAnyH_take (i := 0) (v := ?_) rfl (by kernel_rfl) (by kernel_rfl) (by kernel_rfl) (fun _ _ _ h => h) (Or.inl ⟨by rfl, ?_⟩) (by assumption) ?_
            rotate_left
            · intro V hSw
              try dsimp only at hSw
              try simp only [List.getElem_toArray, List.getElem_cons_zero]
              go_simp
              first | done | rfl
            try simp only [Act.put, List.getElem_toArray, List.getElem_cons_zero, List.setIfInBounds_toArray, List.set_cons_zero, List.set_cons_succ]
            refine wpAnyH_take (i := 1) (v := ?_) rfl (by kernel_rfl) (by kernel_rfl) (by kernel_rfl) (fun _ _ _ h => h) (Or.inl ⟨by rfl, ?_⟩) (by assumption) ?_
            rotate_left
            · intro V hSw
              try dsimp only at hSw
              try simp only [List.getElem_toArray, List.getElem_cons_zero, List.getElem_cons_succ]
              go_simp
              first | done | rfl
            try simp only [Act.put, List.getElem_toArray, List.getElem_cons_zero, List.getElem_cons_succ, List.setIfInBounds_toArray, List.set_cons_zero, List.set_cons_succ]
            refine wpAnyH_take (i := 2) (v := ?_) rfl (by kernel_rfl) (by kernel_rfl) (by kernel_rfl) (fun _ _ _ h => h) (Or.inl ⟨by rfl, ?_⟩) (by assumption) ?_
            rotate_left
            · intro V hSw
              try dsimp only at hSw
              try simp only [List.getElem_toArray, List.getElem_cons_zero, List.getElem_cons_succ]
              go_simp
              first | done | rfl
            try simp only [Act.put, List.getElem_toArray, List.getElem_cons_zero, List.getElem_cons_succ, List.setIfInBounds_toArray, List.set_cons_zero, List.set_cons_succ]
            refine wpAnyH_take (i := 3) (v := ?_) rfl (by kernel_rfl) (by kernel_rfl) (by kernel_rfl) (fun _ _ _ h => h) (Or.inl ⟨by rfl, ?_⟩) (by assumption) ?_
            rotate_left
            · intro V hSw
              try dsimp only at hSw
              try simp only [List.getElem_toArray, List.getElem_cons_zero, List.getElem_cons_succ]
              go_simp
              first | done | rfl
            try simp only [Act.put, List.getElem_toArray, List.getElem_cons_zero, List.getElem_cons_succ, List.setIfInBounds_toArray, List.set_cons_zero, List.set_cons_succ]
            refine wpAnyH_take (i := 4) (v := ?_) rfl (by kernel_rfl) (by kernel_rfl) (by kernel_rfl) (fun _ _ _ h => h) (Or.inl ⟨by rfl, ?_⟩) (by assumption) ?_
            rotate_left
            · intro V hSw
              try dsimp only at hSw
              try simp only [List.getElem_toArray, List.getElem_cons_zero, List.getElem_cons_succ]
              go_simp
              first | done | rfl
            try simp only [Act.put, List.getElem_toArray, List.getElem_cons_zero, List.getElem_cons_succ, List.setIfInBounds_toArray, List.set_cons_zero, List.set_cons_succ]
            refine wpAnyH_take (i := 5) (v := ?_) rfl (by kernel_rfl) (by kernel_rfl) (by kernel_rfl) (fun _ _ _ h => h) (Or.inl ⟨by rfl, ?_⟩) (by assumption) ?_
            rotate_left
            · intro V hSw
              try dsimp only at hSw
              try simp only [List.getElem_toArray, List.getElem_cons_zero, List.getElem_cons_succ]
              go_simp
              first | done | rfl
            try simp only [Act.put, List.getElem_toArray, List.getElem_cons_zero, List.getElem_cons_succ, List.setIfInBounds_toArray, List.set_cons_zero, List.set_cons_succ]
            refine wpAnyH_take (i := 6) (v := ?_) rfl (by kernel_rfl) (by kernel_rfl) (by kernel_rfl) (fun _ _ _ h => h) (Or.inl ⟨by rfl, ?_⟩) (by assumption) ?_
            rotate_left
            · intro V hSw
              try dsimp only at hSw
              try simp only [List.getElem_toArray, List.getElem_cons_zero, List.getElem_cons_succ]
              go_simp
              first | done | rfl
            try simp only [Act.put, List.getElem_toArray, List.getElem_cons_zero, List.getElem_cons_succ, List.setIfInBounds_toArray, List.set_cons_zero, List.set_cons_succ]
            refine wpAnyH_take (i := 7) (v := ?_) rfl (by kernel_rfl) (by kernel_rfl) (by kernel_rfl) (fun _ _ _ h => h) (Or.inl ⟨by rfl, ?_⟩) (by assumption) ?_
            rotate_left
            · intro V hSw
              try dsimp only at hSw
              try simp only [List.getElem_toArray, List.getElem_cons_zero, List.getElem_cons_succ]
              go_simp
              first | done | rfl
            try simp only [Act.put, List.getElem_toArray, List.getElem_cons_zero, List.getElem_cons_succ, List.setIfInBounds_toArray, List.set_cons_zero, List.set_cons_succ]
            refine wpAnyH_take (i := 8) (v := ?_) rfl (by kernel_rfl) (by kernel_rfl) (by kernel_rfl) (fun _ _ _ h => h) (Or.inl ⟨by rfl, ?_⟩) (by assumption) ?_
            rotate_left
            · intro V hSw
              try dsimp only at hSw
              try simp only [List.getElem_toArray, List.getElem_cons_zero, List.getElem_cons_succ]
              go_simp
              first | done | rfl
            try simp only [Act.put, List.getElem_toArray, List.getElem_cons_zero, List.getElem_cons_succ, List.setIfInBounds_toArray, List.set_cons_zero, List.set_cons_succ]
            refine wpAnyH_take (i := 9) (v := ?_) rfl (by kernel_rfl) (by kernel_rfl) (by kernel_rfl) (fun _ _ _ h => h) (Or.inl ⟨by rfl, ?_⟩) (by assumption) ?_
            rotate_left
            · intro V hSw
              try dsimp only at hSw
              try simp only [List.getElem_toArray, List.getElem_cons_zero, List.getElem_cons_succ]
              go_simp
              first | done | rfl
            try simp only [Act.put, List.getElem_toArray, List.getElem_cons_zero, List.getElem_cons_succ, List.setIfInBounds_toArray, List.set_cons_zero, List.set_cons_succ]
            refine wpAnyH_take (i := 10) (v := ?_) rfl (by kernel_rfl) (by kernel_rfl) (by kernel_rfl) (fun _ _ _ h => h) (Or.inl ⟨by rfl, ?_⟩) (by assumption) ?_
            rotate_left
            · intro V hSw
              try dsimp only at hSw
              try simp only [List.getElem_toArray, List.getElem_cons_zero, List.getElem_cons_succ]
              go_simp
              first | done | rfl
            try simp only [Act.put, List.getElem_toArray, List.getElem_cons_zero, List.getElem_cons_succ, List.setIfInBounds_toArray, List.set_cons_zero, List.set_cons_succ]
            refine wpAnyH_take (i := 11) (v := ?_) rfl (by kernel_rfl) (by kernel_rfl) (by kernel_rfl) (fun _ _ _ h => h) (Or.inl ⟨by rfl, ?_⟩) (by assumption) ?_
            rotate_left
            · intro V hSw
              try dsimp only at hSw
              try simp only [List.getElem_toArray, List.getElem_cons_zero, List.getElem_cons_succ]
              go_simp
              first | done | rfl
            try simp only [Act.put, List.getElem_toArray, List.getElem_cons_zero, List.getElem_cons_succ, List.setIfInBounds_toArray, List.set_cons_zero, List.set_cons_succ]
            refine wpAnyH_take (i := 12) (v := ?_) rfl (by kernel_rfl) (by kernel_rfl) (by kernel_rfl) (fun _ _ _ h => h) (Or.inl ⟨by rfl, ?_⟩) (by assumption) ?_
            rotate_left
            · intro V hSw
              try dsimp only at hSw
              try simp only [List.getElem_toArray, List.getElem_cons_zero, List.getElem_cons_succ]
              go_simp
              first | done | rfl
            try simp only [Act.put, List.getElem_toArray, List.getElem_cons_zero, List.getElem_cons_succ, List.setIfInBounds_toArray, List.set_cons_zero, List.set_cons_succ]
            refine wpAnyH_done (by kernel_rfl) ?_ _
            gi_wp2_with fail
            refine region_round (S := fun w' => w'.cell? ⟨Bx, 1, none⟩ = some (.int .i64 fn) ∧ w'.cell? ⟨Bx, 2, none⟩ = some (.int .i64 tn) ∧ w'.cell? ⟨Bx, 3, none⟩ = some (.string X.tx) ∧ w'.cell? ⟨w2.heap.size, 0, none⟩ = some (.slice (some ⟨g, 0, none⟩) fs.length cap4)) (by kernel_rfl) (by kernel_rfl) (by rintro ⟨_, _, h⟩; exact h) ⟨x1, x2, x3, c7⟩ (fun hHeld => ?_)
            refine wpAnyH_take (i := 0) (v := ?_) rfl (by kernel_rfl) (by kernel_rfl) (by kernel_rfl) (fun _ _ _ h => h) (Or.inl ⟨by rfl, ?_⟩) (by assumption) ?_
            rotate_left
            · intro V hSw
              try dsimp only at hSw
              try simp only [List.getElem_toArray, List.getElem_cons_zero]
              go_simp
              first | done | rfl
            try simp only [Act.put, List.getElem_toArray, List.getElem_cons_zero, List.setIfInBounds_toArray, List.set_cons_zero, List.set_cons_succ]
            refine wpAnyH_take (i := 1) (v := ?_) rfl (by kernel_rfl) (by kernel_rfl) (by kernel_rfl) (fun _ _ _ h => h) (Or.inl ⟨by rfl, ?_⟩) (by assumption) ?_
            rotate_left
            · intro V hSw
              try dsimp only at hSw
              try simp only [List.getElem_toArray, List.getElem_cons_zero, List.getElem_cons_succ]
              go_simp
              first | done | rfl
            try simp only [Act.put, List.getElem_toArray, List.getElem_cons_zero, List.getElem_cons_succ, List.setIfInBounds_toArray, List.set_cons_zero, List.set_cons_succ]
            refine wpAnyH_take (i := 2) (v := ?_) rfl (by kernel_rfl) (by kernel_rfl) (by kernel_rfl) (fun _ _ _ h => h) (Or.inl ⟨by rfl, ?_⟩) (by assumption) ?_
            rotate_left
            · intro V hSw
              try dsimp only at hSw
              try simp only [List.getElem_toArray, List.getElem_cons_zero, List.getElem_cons_succ]
              go_simp
              first | done | rfl
            try simp only [Act.put, List.getElem_toArray, List.getElem_cons_zero, List.getElem_cons_succ, List.setIfInBounds_toArray, List.set_cons_zero, List.set_cons_succ]
            refine wpAnyH_take (i := 3) (v := ?_) rfl (by kernel_rfl) (by kernel_rfl) (by kernel_rfl) (fun _ _ _ h => h) (Or.inl ⟨by rfl, ?_⟩) (by assumption) ?_
            rotate_left
            · intro V hSw
              try dsimp only at hSw
              try simp only [List.getElem_toArray, List.getElem_cons_zero, List.getElem_cons_succ]
              go_simp
              first | done | rfl
            try simp only [Act.put, List.getElem_toArray, List.getElem_cons_zero, List.getElem_cons_succ, List.setIfInBounds_toArray, List.set_cons_zero, List.set_cons_succ]
            refine wpAnyH_take (i := 4) (v := ?_) rfl (by kernel_rfl) (by kernel_rfl) (by kernel_rfl) (fun _ _ _ h => h) (Or.inl ⟨by rfl, ?_⟩) (by assumption) ?_
            rotate_left
            · intro V hSw
              try dsimp only at hSw
              try simp only [List.getElem_toArray, List.getElem_cons_zero, List.getElem_cons_succ]
              go_simp
              first | done | rfl
            try simp only [Act.put, List.getElem_toArray, List.getElem_cons_zero, List.getElem_cons_succ, List.setIfInBounds_toArray, List.set_cons_zero, List.set_cons_succ]
            refine wpAnyH_take (i := 5) (v := ?_) rfl (by kernel_rfl) (by kernel_rfl) (by kernel_rfl) (fun _ _ _ h => h) (Or.inl ⟨by rfl, ?_⟩) (by assumption) ?_
            rotate_left
            · intro V hSw
              try dsimp only at hSw
              try simp only [List.getElem_toArray, List.getElem_cons_zero, List.getElem_cons_succ]
              go_simp
              first | done | rfl
            try simp only [Act.put, List.getElem_toArray, List.getElem_cons_zero, List.getElem_cons_succ, List.setIfInBounds_toArray, List.set_cons_zero, List.set_cons_succ]
            refine wpAnyH_take (i := 6) (v := ?_) rfl (by kernel_rfl) (by kernel_rfl) (by kernel_rfl) (fun _ _ _ h => h) (Or.inl ⟨by rfl, ?_⟩) (by assumption) ?_
            rotate_left
            · intro V hSw
              try dsimp only at hSw
              try simp only [List.getElem_toArray, List.getElem_cons_zero, List.getElem_cons_succ]
              go_simp
              first | done | rfl
            try simp only [Act.put, List.getElem_toArray, List.getElem_cons_zero, List.getElem_cons_succ, List.setIfInBounds_toArray, List.set_cons_zero, List.set_cons_succ]
            refine wpAnyH_take (i := 7) (v := ?_) rfl (by kernel_rfl) (by kernel_rfl) (by kernel_rfl) (fun _ _ _ h => h) (Or.inl ⟨by rfl, ?_⟩) (by assumption) ?_
            rotate_left
            · intro V hSw
              try dsimp only at hSw
              try simp only [List.getElem_toArray, List.getElem_cons_zero, List.getElem_cons_succ]
              go_simp
              first | done | rfl
            try simp only [Act.put, List.getElem_toArray, List.getElem_cons_zero, List.getElem_cons_succ, List.setIfInBounds_toArray, List.set_cons_zero, List.set_cons_succ]
            refine wpAnyH_take (i := 8) (v := ?_) rfl (by kernel_rfl) (by kernel_rfl) (by kernel_rfl) (fun _ _ _ h => h) (Or.inl ⟨by rfl, ?_⟩) (by assumption) ?_
            rotate_left
            · intro V hSw
              try dsimp only at hSw
              try simp only [List.getElem_toArray, List.getElem_cons_zero, List.getElem_cons_succ]
              go_simp
              first | done | rfl
            try simp only [Act.put, List.getElem_toArray, List.getElem_cons_zero, List.getElem_cons_succ, List.setIfInBounds_toArray, List.set_cons_zero, List.set_cons_succ]
            refine wpAnyH_take (i := 9) (v := ?_) rfl (by kernel_rfl) (by kernel_rfl) (by kernel_rfl) (fun _ _ _ h => h) (Or.inl ⟨by rfl, ?_⟩) (by assumption) ?_
            rotate_left
            · intro V hSw
              try dsimp only at hSw
              try simp only [List.getElem_toArray, List.getElem_cons_zero, List.getElem_cons_succ]
              go_simp
              first | done | rfl
            try simp only [Act.put, List.getElem_toArray, List.getElem_cons_zero, List.getElem_cons_succ, List.setIfInBounds_toArray, List.set_cons_zero, List.set_cons_succ]
            refine wpAnyH_take (i := 10) (v := ?_) rfl (by kernel_rfl) (by kernel_rfl) (by kernel_rfl) (fun _ _ _ h => h) (Or.inl ⟨by rfl, ?_⟩) (by assumption) ?_
            rotate_left
            · intro V hSw
              try dsimp only at hSw
              try simp only [List.getElem_toArray, List.getElem_cons_zero, List.getElem_cons_succ]
              go_simp
              first | done | rfl
            try simp only [Act.put, List.getElem_toArray, List.getElem_cons_zero, List.getElem_cons_succ, List.setIfInBounds_toArray, List.set_cons_zero, List.set_cons_succ]
            refine wpAnyH_take (i := 11) (v := ?_) rfl (by kernel_rfl) (by kernel_rfl) (by kernel_rfl) (fun _ _ _ h => h) (Or.inl ⟨by rfl, ?_⟩) (by assumption) ?_
            rotate_left
            · intro V hSw
              try dsimp only at hSw
              try simp only [List.getElem_toArray, List.getElem_cons_zero, List.getElem_cons_succ]
              go_simp
              first | done | rfl
            try simp only [Act.put, List.getElem_toArray, List.getElem_cons_zero, List.getElem_cons_succ, List.setIfInBounds_toArray, List.set_cons_zero, List.set_cons_succ]
            refine wpAnyH_ready (rs := [12]) (by kernel_rfl) (by simp) ?_
            refine AllReadyH.cons rfl (fun K hK => ?_) AllReadyH.nil
            try simp only [List.getElem_toArray, List.getElem_cons_zero, List.getElem_cons_succ]
            go_simp
            have k1 := (World.cell?_alloc_some W ⟨Bx, 1, none⟩ (.cells #[.string (gs[i].tx.extract 0 fn), .string X.tx, .string (gs[i].tx.extract tn gs[i].tx.size)] 9) (by rw [x1]; rfl)).trans x1
            have k2 := (World.cell?_alloc_some W ⟨Bx, 2, none⟩ (.cells #[.string (gs[i].tx.extract 0 fn), .string X.tx, .string (gs[i].tx.extract tn gs[i].tx.size)] 9) (by rw [x2]; rfl)).trans x2
            have k3 := (World.cell?_alloc_some W ⟨Bx, 3, none⟩ (.cells #[.string (gs[i].tx.extract 0 fn), .string X.tx, .string (gs[i].tx.extract tn gs[i].tx.size)] 9) (by rw [x3]; rfl)).trans x3
            have k7 := (World.cell?_alloc_some W ⟨w2.heap.size, 0, none⟩ (.cells #[.string (gs[i].tx.extract 0 fn), .string X.tx, .string (gs[i].tx.extract tn gs[i].tx.size)] 9) (by rw [c7]; rfl)).trans c7
            refine hK.out _ _ ⟨k1, k2, k3, k7⟩ (fun hHeld => ?_)
            clear hK K
            try simp only [Act.put, List.getElem_toArray, List.getElem_cons_zero, List.getElem_cons_succ, List.setIfInBounds_toArray, List.set_cons_zero, List.set_cons_succ]
            refine wpAnyH_ready (rs := [13]) (by kernel_rfl) (by simp) ?_
            refine AllReadyH.cons rfl (fun K hK => ?_) AllReadyH.nil
            try simp only [List.getElem_toArray, List.getElem_cons_zero, List.getElem_cons_succ]
            go_simp
            have hA : Blk (W.alloc (.cells #[.string (gs[i].tx.extract 0 fn), .string X.tx, .string (gs[i].tx.extract tn gs[i].tx.size)] 9)).drew.drew W.heap.size 9 #[.string (gs[i].tx.extract 0 fn), .string X.tx, .string (gs[i].tx.extract tn gs[i].tx.size)] := Blk.new W 9 _
            refine (join_c W.heap.size 3 _ _ _ _ (hA.cell 0) (hA.cell 1) (hA.cell 2) hA.lt (Nat.le_refl 3) (by rw [← HSPL.out]; exact HLE.out)).mono ?_
            rintro e w3 ⟨rfl, hb3⟩
            rw [← HSPL.out]
            have hbA : Below W.heap.size W w3 := (below_drew2 ((Below.refl _ W).alloc (Nat.le_refl _) _)).trans (Below.mono hb3 (Nat.le_of_lt hA.lt))
            have HO13 := Lib.hid (own_below HOL2.out hbA)
            first | (go_wp2_with fail; done) | skip
            have j1 := (hbA.cell (p := ⟨Bx, 1, none⟩) xb.lt).trans x1
            have j2 := (hbA.cell (p := ⟨Bx, 2, none⟩) xb.lt).trans x2
            have j3 := (hbA.cell (p := ⟨Bx, 3, none⟩) xb.lt).trans x3
            have j7 := (hbA.cell (p := ⟨w2.heap.size, 0, none⟩) q7.lt).trans c7
            refine hK.out _ _ ⟨j1, j2, j3, j7⟩ (fun hHeld => ?_)
            clear hK K
            have r1 := (own_at2 HO13.out hig hgl).2
            have r2 := HO13.out.frozenAt (i * 2 + 1)
            try simp only [Act.put, List.getElem_toArray, List.getElem_cons_zero, List.getElem_cons_succ, List.setIfInBounds_toArray, List.set_cons_zero, List.set_cons_succ]
            refine wpAnyH_take (i := 14) (v := ?_) rfl (by kernel_rfl) (by kernel_rfl) (by kernel_rfl) (fun _ _ _ h => h) (Or.inl ⟨by rfl, ?_⟩) (by assumption) ?_
            rotate_left
            · intro V hSw
              try dsimp only at hSw
              try simp only [List.getElem_toArray, List.getElem_cons_zero, List.getElem_cons_succ]
              go_simp
              first | done | rfl
            try simp only [Act.put, List.getElem_toArray, List.getElem_cons_zero, List.getElem_cons_succ, List.setIfInBounds_toArray, List.set_cons_zero, List.set_cons_succ]
            refine wpAnyH_take (i := 15) (v := ?_) rfl (by kernel_rfl) (by kernel_rfl) (by kernel_rfl) (fun _ _ _ h => h) (Or.inl ⟨by rfl, ?_⟩) (by assumption) ?_
            rotate_left
            · intro V hSw
              try dsimp only at hSw
              try simp only [List.getElem_toArray, List.getElem_cons_zero, List.getElem_cons_succ]
              go_simp
              first | done | rfl
            try simp only [Act.put, List.getElem_toArray, List.getElem_cons_zero, List.getElem_cons_succ, List.setIfInBounds_toArray, List.set_cons_zero, List.set_cons_succ]
            refine wpAnyH_ready (rs := [16]) (by kernel_rfl) (by simp) ?_
            refine AllReadyH.cons rfl (fun K hK => ?_) AllReadyH.nil
            try simp only [List.getElem_toArray, List.getElem_cons_zero, List.getElem_cons_succ]
            go_simp
            have y1 := (World.cell?_setCell_far w3 ⟨g, i * 2 + 1, none⟩ ⟨Bx, 1, none⟩ (.string (spl gs[i].tx X)) (fun e => by have : g = Bx := e; have := l7.lt; omega)).trans j1
            have y2 := (World.cell?_setCell_far w3 ⟨g, i * 2 + 1, none⟩ ⟨Bx, 2, none⟩ (.string (spl gs[i].tx X)) (fun e => by have : g = Bx := e; have := l7.lt; omega)).trans j2
            have y3 := (World.cell?_setCell_far w3 ⟨g, i * 2 + 1, none⟩ ⟨Bx, 3, none⟩ (.string (spl gs[i].tx X)) (fun e => by have : g = Bx := e; have := l7.lt; omega)).trans j3
            have y7 := (World.cell?_setCell_far w3 ⟨g, i * 2 + 1, none⟩ ⟨w2.heap.size, 0, none⟩ (.string (spl gs[i].tx X)) (fun e => by have : g = w2.heap.size := e; omega)).trans j7
            refine hK.out _ _ ⟨y1, y2, y3, y7⟩ (fun hHeld => ?_)
            clear hK K
            try simp only [Act.put, List.getElem_toArray, List.getElem_cons_zero, List.getElem_cons_succ, List.setIfInBounds_toArray, List.set_cons_zero, List.set_cons_succ]
            refine wpAnyH_done (by kernel_rfl) ?_ _
            gi_wp2_with fail
            have hgr : W.grownBy (w3.setCell ⟨g, i * 2 + 1, none⟩ (.string (spl gs[i].tx X))) (some g) := (grown_of_below hbA _).trans (grown_set w3 g (i * 2 + 1) _)
            exact ⟨KeepsFrom.of_grownBy hgr (fun r e => by cases e; have := l7.lt; omega),
              SameOn.of_grown hgr (fun r hr => Nat.lt_of_lt_of_le (hS' r hr) hz) (fun r hr e => by
                cases e
                rcases hr with hr | hr
                · have := HLT.out _ hr; omega
                · omega),
              gs.set i ⟨gs[i].p, spl gs[i].tx X⟩, HST.out _ HS1.out,
              ⟨⟨q2.kept hgr (fun e => by cases e; omega), q4.kept hgr (fun e => by cases e; omega), q5.kept hgr (fun e => by cases e; omega), q7.kept hgr (fun e => by cases e; omega), q8.kept hgr (fun e => by cases e; omega)⟩,
                hm.kept hgr (fun e => by cases e; omega), HFL2.out.keep (SameOn.of_grown hgr (HS.out.below HBL2.out) (fun r hr e => by cases e; have := HS.out _ hr; omega)), own_set2 HO13.out hig _⟩,
              Nat.le_trans hz hgr.size, HBL2.out.grown hgr HBL2.out.size (fun r e => by cases e; omega)⟩
          · have hgt : (fs[i].tx.size : Int) < X.to := by rw [hfi] at hto; omega
            have HSN : Hid (stepE fs X gs = none) := by unfold Hid stepE; rw [hlk]; exact if_neg hto
            clear hto hfi
            have c4 := q4.cell
            have f4 := q4.frozen
            have c5 := (q5.other (B' := w.heap.size + 1) (by simp) (.slice none 0 0)).cell
            have f5 := (q5.other (B' := w.heap.size + 1) (by simp) (.slice none 0 0)).frozen
            gi_wp2_with (gi_at_lookup; refine wpListIn_lookup_own_ok_int _ rfl _ _ 52 rfl 9 3 .i64 (Maps.string_keyed Tryd.underlying9) Tryd.underlying52 Tryd.underlying3 (zero3 _) (w2.heap.size + 1) fs.length _ rfl hm _ _ rfl hkey ?_; intro ci hat hwc)
            rw [mapJ_at, hlk] at hat
            obtain rfl : (i : Int) = ci := by simpa using hat
            refine region_round (S := fun w' => w'.cell? ⟨Bx, 2, none⟩ = some (.int .i64 X.to) ∧ w'.cell? ⟨w.heap.size, 0, none⟩ = some (.slice (some ⟨b, o, none⟩) fs.length cap) ∧ w'.cell? ⟨b, o + i * 2 + 1, none⟩ = some (.string fs[i].tx)) (by kernel_rfl) (by kernel_rfl) (by rintro ⟨_, _, h⟩; exact h) ⟨x2, c2, a1⟩ (fun hHeld => ?_)
            refine wpAnyH_take (i := 0) (v := ?_) rfl (by kernel_rfl) (by kernel_rfl) (by kernel_rfl) (fun _ _ _ h => h) (Or.inl ⟨by rfl, ?_⟩) (by assumption) ?_
            rotate_left
            · intro V hSw
              try dsimp only at hSw
              try simp only [List.getElem_toArray, List.getElem_cons_zero]
              go_simp
              first | done | rfl
            try simp only [Act.put, List.getElem_toArray, List.getElem_cons_zero, List.setIfInBounds_toArray, List.set_cons_zero, List.set_cons_succ]
            refine wpAnyH_take (i := 1) (v := ?_) rfl (by kernel_rfl) (by kernel_rfl) (by kernel_rfl) (fun _ _ _ h => h) (Or.inl ⟨by rfl, ?_⟩) (by assumption) ?_
            rotate_left
            · intro V hSw
              try dsimp only at hSw
              try simp only [List.getElem_toArray, List.getElem_cons_zero, List.getElem_cons_succ]
              go_simp
              first | done | rfl
            try simp only [Act.put, List.getElem_toArray, List.getElem_cons_zero, List.getElem_cons_succ, List.setIfInBounds_toArray, List.set_cons_zero, List.set_cons_succ]
            refine wpAnyH_take (i := 2) (v := ?_) rfl (by kernel_rfl) (by kernel_rfl) (by kernel_rfl) (fun _ _ _ h => h) (Or.inl ⟨by rfl, ?_⟩) (by assumption) ?_
            rotate_left
            · intro V hSw
              try dsimp only at hSw
              try simp only [List.getElem_toArray, List.getElem_cons_zero, List.getElem_cons_succ]
              go_simp
              first | done | rfl
            try simp only [Act.put, List.getElem_toArray, List.getElem_cons_zero, List.getElem_cons_succ, List.setIfInBounds_toArray, List.set_cons_zero, List.set_cons_succ]
            refine wpAnyH_take (i := 3) (v := ?_) rfl (by kernel_rfl) (by kernel_rfl) (by kernel_rfl) (fun _ _ _ h => h) (Or.inl ⟨by rfl, ?_⟩) (by assumption) ?_
            rotate_left
            · intro V hSw
              try dsimp only at hSw
              try simp only [List.getElem_toArray, List.getElem_cons_zero, List.getElem_cons_succ]
              go_simp
              first | done | rfl
            try simp only [Act.put, List.getElem_toArray, List.getElem_cons_zero, List.getElem_cons_succ, List.setIfInBounds_toArray, List.set_cons_zero, List.set_cons_succ]
            refine wpAnyH_take (i := 4) (v := ?_) rfl (by kernel_rfl) (by kernel_rfl) (by kernel_rfl) (fun _ _ _ h => h) (Or.inl ⟨by rfl, ?_⟩) (by assumption) ?_
            rotate_left
            · intro V hSw
              try dsimp only at hSw
              try simp only [List.getElem_toArray, List.getElem_cons_zero, List.getElem_cons_succ]
              go_simp
              first | done | rfl
            try simp only [Act.put, List.getElem_toArray, List.getElem_cons_zero, List.getElem_cons_succ, List.setIfInBounds_toArray, List.set_cons_zero, List.set_cons_succ]
            refine wpAnyH_take (i := 5) (v := ?_) rfl (by kernel_rfl) (by kernel_rfl) (by kernel_rfl) (fun _ _ _ h => h) (Or.inl ⟨by rfl, ?_⟩) (by assumption) ?_
            rotate_left
            · intro V hSw
              try dsimp only at hSw
              try simp only [List.getElem_toArray, List.getElem_cons_zero, List.getElem_cons_succ]
              go_simp
              first | done | rfl
            try simp only [Act.put, List.getElem_toArray, List.getElem_cons_zero, List.getElem_cons_succ, List.setIfInBounds_toArray, List.set_cons_zero, List.set_cons_succ]
            refine wpAnyH_take (i := 6) (v := ?_) rfl (by kernel_rfl) (by kernel_rfl) (by kernel_rfl) (fun _ _ _ h => h) (Or.inl ⟨by rfl, ?_⟩) (by assumption) ?_
            rotate_left
            · intro V hSw
              try dsimp only at hSw
              try simp only [List.getElem_toArray, List.getElem_cons_zero, List.getElem_cons_succ]
              go_simp
              first | done | rfl
            try simp only [Act.put, List.getElem_toArray, List.getElem_cons_zero, List.getElem_cons_succ, List.setIfInBounds_toArray, List.set_cons_zero, List.set_cons_succ]
            refine wpAnyH_take (i := 7) (v := ?_) rfl (by kernel_rfl) (by kernel_rfl) (by kernel_rfl) (fun _ _ _ h => h) (Or.inl ⟨by rfl, ?_⟩) (by assumption) ?_
            rotate_left
            · intro V hSw
              try dsimp only at hSw
              try simp only [List.getElem_toArray, List.getElem_cons_zero, List.getElem_cons_succ]
              go_simp
              first | done | rfl
            try simp only [Act.put, List.getElem_toArray, List.getElem_cons_zero, List.getElem_cons_succ, List.setIfInBounds_toArray, List.set_cons_zero, List.set_cons_succ]
            refine wpAnyH_take (i := 8) (v := ?_) rfl (by kernel_rfl) (by kernel_rfl) (by kernel_rfl) (fun _ _ _ h => h) (Or.inl ⟨by rfl, ?_⟩) (by assumption) ?_
            rotate_left
            · intro V hSw
              try dsimp only at hSw
              try simp only [List.getElem_toArray, List.getElem_cons_zero, List.getElem_cons_succ]
              go_simp
              first | done | rfl
            try simp only [Act.put, List.getElem_toArray, List.getElem_cons_zero, List.getElem_cons_succ, List.setIfInBounds_toArray, List.set_cons_zero, List.set_cons_succ]
            refine wpAnyH_take (i := 9) (v := ?_) rfl (by kernel_rfl) (by kernel_rfl) (by kernel_rfl) (fun _ _ _ h => h) (Or.inl ⟨by rfl, ?_⟩) (by assumption) ?_
            rotate_left
            · intro V hSw
              try dsimp only at hSw
              try simp only [List.getElem_toArray, List.getElem_cons_zero, List.getElem_cons_succ]
              go_simp
              first | done | rfl
            try simp only [Act.put, List.getElem_toArray, List.getElem_cons_zero, List.getElem_cons_succ, List.setIfInBounds_toArray, List.set_cons_zero, List.set_cons_succ]
            refine wpAnyH_take (i := 10) (v := ?_) rfl (by kernel_rfl) (by kernel_rfl) (by kernel_rfl) (fun _ _ _ h => h) (Or.inl ⟨by rfl, ?_⟩) (by assumption) ?_
            rotate_left
            · intro V hSw
              try dsimp only at hSw
              try simp only [List.getElem_toArray, List.getElem_cons_zero, List.getElem_cons_succ]
              go_simp
              first | done | rfl
            try simp only [Act.put, List.getElem_toArray, List.getElem_cons_zero, List.getElem_cons_succ, List.setIfInBounds_toArray, List.set_cons_zero, List.set_cons_succ]
            refine wpAnyH_take (i := 11) (v := ?_) rfl (by kernel_rfl) (by kernel_rfl) (by kernel_rfl) (fun _ _ _ h => h) (Or.inl ⟨by rfl, ?_⟩) (by assumption) ?_
            rotate_left
            · intro V hSw
              try dsimp only at hSw
              try simp only [List.getElem_toArray, List.getElem_cons_zero, List.getElem_cons_succ]
              go_simp
              first | done | rfl
            try simp only [Act.put, List.getElem_toArray, List.getElem_cons_zero, List.getElem_cons_succ, List.setIfInBounds_toArray, List.set_cons_zero, List.set_cons_succ]
            refine wpAnyH_take (i := 12) (v := ?_) rfl (by kernel_rfl) (by kernel_rfl) (by kernel_rfl) (fun _ _ _ h => h) (Or.inl ⟨by rfl, ?_⟩) (by assumption) ?_
            rotate_left
            · intro V hSw
              try dsimp only at hSw
              try simp only [List.getElem_toArray, List.getElem_cons_zero, List.getElem_cons_succ]
              go_simp
              first | done | rfl
            try simp only [Act.put, List.getElem_toArray, List.getElem_cons_zero, List.getElem_cons_succ, List.setIfInBounds_toArray, List.set_cons_zero, List.set_cons_succ]
            refine wpAnyH_done (by kernel_rfl) ?_ _
            gi_wp2_with fail
            exact ⟨(((KeepsOthers.setCell W ⟨w.heap.size + 1, 0, none⟩ (.slice none 0 0)).trans (KeepsOthers.setCell _ ⟨w.heap.size + 1 + 1, 0, none⟩ (.int .i64 1))).trans (KeepsOthers.drew _)).from _, HST.out _ HSN.out,
            (q4.set (.slice none 0 0)).other (B' := w.heap.size + 1 + 1) (by simp) (.int .i64 1), (q5.other (B' := w.heap.size + 1) (by simp) (.slice none 0 0)).set (.int .i64 1),
            ((HBL2.out.setCell (p := ⟨w.heap.size + 1, 0, none⟩) (Nat.le_succ _) (.slice none 0 0)).setCell (p := ⟨w.heap.size + 1 + 1, 0, none⟩) (Nat.le_add_right _ 2) (.int .i64 1)).trans ⟨rfl, rfl, rfl, Nat.le_refl _, fun _ _ => rfl⟩⟩
      case done =>
        rintro D W hD ⟨gs, hrk, ⟨⟨q2, q4, q5, q7, q8⟩, hm, hf, ho⟩, hz, hB⟩ hK
        have c7 := q7.cell
        have c4 := q4.cell
        have f4 := q4.frozen
        have x5 := q5.other (B' := w.heap.size + 1) (by simp) (.slice none 0 0)
        have y5 := q5.other (B' := w.heap.size + 1) (by simp) (.slice A4 fs.length cap4)
        have cx5 := x5.cell
        have fx5 := x5.frozen
        have cy5 := y5.cell
        have fy5 := y5.frozen
        have HGS : Hid (gs.length = fs.length) := runK_len hrk
        rcases HC.out with ⟨hok, hcl, rfl⟩ | ⟨hok, hcl, rfl⟩
        · have HAP : Hid (applyP fs l = some gs) := by
            unfold Hid applyP
            rw [HDUP.out, hok, ← hcl]
            exact hrk
          clear hok hcl hrk
          go_wp2_with fail
          have hK' := (KeepsOthers.setCell (W.setCell ⟨w.heap.size + 1, 0, none⟩ (.slice A4 fs.length cap4)) ⟨w.heap.size + 1 + 1, 0, none⟩ (.int .i64 0)).same D _ ((KeepsOthers.setCell W ⟨w.heap.size + 1, 0, none⟩ (.slice A4 fs.length cap4)).same D _ hK rfl) rfl
          have r4 := cell_kept ((q4.set (.slice A4 fs.length cap4)).other (B' := w.heap.size + 1 + 1) (by simp) (.int .i64 0)).cell (grownBy_putObj' _ D (.deferred none)) (fun r e => by cases e; exact ⟨_, hK', rfl⟩)
          have r5 := cell_kept (y5.set (.int .i64 0)).cell (grownBy_putObj' _ D (.deferred none)) (fun r e => by cases e; exact ⟨_, hK', rfl⟩)
          have hBD := ((hB.setCell (p := ⟨w.heap.size + 1, 0, none⟩) (Nat.le_succ _) (.slice A4 fs.length cap4)).setCell (p := ⟨w.heap.size + 1 + 1, 0, none⟩) (Nat.le_add_right _ 2) (.int .i64 0)).trans
            (belowK_b (w := w) (Nat.le_refl _) _ D _ (.deferred none) (by have := l2.lt; omega) hK' rfl rfl)
          have hoD := own_kept (own_kept (own_kept ho (grownBy_setCell' W (w.heap.size + 1) (.slice A4 fs.length cap4)) (fun g h e => by cases e; have := HLT2.out _ h; omega)) (grownBy_setCell' _ (w.heap.size + 1 + 1) (.int .i64 0)) (fun g h e => by cases e; have := HLT2.out _ h; omega))
            (grownBy_putObj' _ D (.deferred none)) (fun g h e => by cases e; have := HLT2.out _ h; have := l7.lt; omega)
          refine ⟨by simp, .inl ⟨_, _, rfl, run_takeDeferred hK', ?_⟩⟩
          exact ⟨.tuple #[.slice A4 fs.length cap4, .int .i64 0], by simp [results, Tryd.f17, go_sem, r4, r5], .inl ⟨gs, HAP.out, _, rfl, by rw [HGS.out]; exact own_base hoD (by omega)⟩, hBD⟩
        · have HAP : Hid (applyP fs l = none) := by
            unfold Hid applyP
            rw [HDUP.out, hok]; rfl
          clear hok hcl hrk
          go_wp2_with fail
          have hK' := (KeepsOthers.setCell (W.setCell ⟨w.heap.size + 1, 0, none⟩ (.slice none 0 0)) ⟨w.heap.size + 1 + 1, 0, none⟩ (.int .i64 1)).same D _ ((KeepsOthers.setCell W ⟨w.heap.size + 1, 0, none⟩ (.slice none 0 0)).same D _ hK rfl) rfl
          have r4 := cell_kept ((q4.set (.slice none 0 0)).other (B' := w.heap.size + 1 + 1) (by simp) (.int .i64 1)).cell (grownBy_putObj' _ D (.deferred none)) (fun r e => by cases e; exact ⟨_, hK', rfl⟩)
          have r5 := cell_kept (x5.set (.int .i64 1)).cell (grownBy_putObj' _ D (.deferred none)) (fun r e => by cases e; exact ⟨_, hK', rfl⟩)
          have hBD := ((hB.setCell (p := ⟨w.heap.size + 1, 0, none⟩) (Nat.le_succ _) (.slice none 0 0)).setCell (p := ⟨w.heap.size + 1 + 1, 0, none⟩) (Nat.le_add_right _ 2) (.int .i64 1)).trans
            (belowK_b (w := w) (Nat.le_refl _) _ D _ (.deferred none) (by have := l2.lt; omega) hK' rfl rfl)
          refine ⟨by simp, .inl ⟨_, _, rfl, run_takeDeferred hK', ?_⟩⟩
          exact ⟨.tuple #[.slice none 0 0, .int .i64 1], by simp [results, Tryd.f17, go_sem, r4, r5], .inr ⟨HAP.out, rfl⟩, hBD⟩
      case stop =>
        rintro D k W hD hk ⟨hrk, q4, q5, hB⟩ hK
        have HAP : Hid (applyP fs l = none) := by
          rcases HC.out with ⟨hok, hcl, -⟩ | ⟨hok, hcl, -⟩
          · unfold Hid applyP
            rw [HDUP.out, hok, ← hcl]
            exact runK_none (k := k + 1) hk hrk
          · rw [hcl] at hk; exact absurd hk (by simp)
        have hBD := hB.trans (belowK_b (w := w) (Nat.le_refl _) W D _ (.deferred none) (by have := l2.lt; omega) hK rfl rfl)
        have r4 := cell_kept q4.cell (grownBy_putObj' _ D (.deferred none)) (fun r e => by cases e; exact ⟨_, hK, rfl⟩)
        have r5 := cell_kept q5.cell (grownBy_putObj' _ D (.deferred none)) (fun r e => by cases e; exact ⟨_, hK, rfl⟩)
        clear hrk q4 q5 hB
        gi_wp2
        refine ⟨by simp, .inl ⟨_, _, rfl, run_takeDeferred hK, ?_⟩⟩
        exact ⟨.tuple #[.slice none 0 0, .int .i64 1], by simp [results, Tryd.f17, go_sem, r4, r5], .inr ⟨HAP.out, rfl⟩, hBD⟩
end Go.Proofs.YtnonbonegbdfpaaDoor
