/- recastref1.Apply: what it computes: as spans.Apply. -/
import Derived.Test.YtnonbonegbdfpaaSpRefL
import Derived.Test.YtnonbonegbdfpaaSpRefB
namespace Go.Proofs.Ytnonbonegbdfpaa
open Go Go.RowKit

theorem flatF_app (a b : List Fi) : flatF (a ++ b) = flatF a ++ flatF b := List.flatMap_append

set_option maxHeartbeats 8000000 in
set_option maxRecDepth 100000 in
theorem refApply_calls {fs : List Fi} {l : List Ed} {v u : Value} {w : World} {S : Nat → Prop} (hf : Row w S 2 v fs.length (flatF fs)) (hl : Row w S 4 u l.length (flat l)) (hS : Old S w)
    (hb1 : fs.length * 32 ≤ 140737488355328) (hb2 : l.length * 48 ≤ 140737488355328) (hsz : ∀ f ∈ fs, f.tx.size + txS l ≤ 140737488355328) :
    Calls Try.prog 18 #[v, u] w (ApplyRes fs l w) := by
  obtain ⟨i0, hi, iz0, iz1, iz2⟩ := info_parts info_files
  have HR : Hid (∀ e W', ApplyRes fs l w e W' → ApplyRes fs l w e W') := fun _ _ h => h
  obtain ⟨A, cap, rfl, hlen⟩ := hf.form
  obtain ⟨B, cap2, rfl, hlen2⟩ := hl.form
  have HF := Lib.hid hf
  have HL := Lib.hid hl
  have HS := Lib.hid hS
  have HLM := Lib.hid hb2
  have HSZ := Lib.hid hsz
  have hfl : fs.length ≤ 4398046511104 := by omega
  clear hf hl hS hsz
  go_enter Try.func18, Try.ntmps18
  go_wp2_with fail
  refine (refSorted_calls HLM.out HL.out HS.out).mono ?_
  rintro e w3 ⟨⟨hok, u, rfl, ho⟩ | ⟨hok, rfl⟩, hb3⟩
  case inr =>
    have HW3 := Lib.hid hb3
    have HN : Hid (applyP fs l = none) := apply_bad hok
    clear hok hb3
    go_wp2_with fail
    go_ret2
    exact HR.out _ _ ⟨.inr ⟨HN.out, rfl⟩, HW3.out⟩
  have HW3 := Lib.hid hb3
  have hz3 := hb3.size
  have HSF : Hid (Safe fs (sortd l)) := safe_of (sortd_pw l) hok (fun i hi => by
    have h1 := sortd_txS l
    have h2 := HSZ.out fs[i] (List.getElem_mem hi)
    rw [fAt_at hi]; omega)
  have HREF : Hid (uniqF fs → (∀ x ∈ sortd l, found fs x) → applyP fs l = some (outF fs (sortd l) fs.length)) := fun h1 h2 => apply_ref h1 hok h2
  have HLOST : Hid (∀ x ∈ sortd l, ¬ found fs x → applyP fs l = none) := fun x h1 h2 => apply_lost h1 h2
  have HDUP : Hid (dupF fs = true → applyP fs l = none) := apply_dup
  have hcl : (sortd l).length ≤ l.length := sortd_len l
  obtain ⟨c, hc⟩ : ∃ c, sortd l = c := ⟨_, rfl⟩
  rw [hc] at ho hcl HSF HREF HLOST
  have HO3 := Lib.hid ho
  obtain ⟨B3, b3, rfl⟩ := own_form ho
  have hcl2 : c.length ≤ 4398046511104 := by omega
  have HF3 : Hid (Row w3 S 2 (.slice A fs.length cap) fs.length (flatF fs)) := HF.out.keep (SameOn.of_below HW3.out HS.out)
  have HOLD : Hid (Old S w3) := fun b hb => Nat.lt_of_lt_of_le (HS.out b hb) hz3
  clear ho hb3 hc hok HL HF HS hcl hb1 hb2
  go_wp2_with fail
  go_loopg [8] fs.length (fun d i wr => ∃ (j : Nat), d = fs.length - j ∧ j ≤ fs.length ∧ i = .int .i64 j ∧ Hid (∀ i, i < j → ∀ k, k < i → (fAt fs k).p ≠ (fAt fs i).p) ∧ Hid (Below w3.heap.size w3 wr))
  case atStart => exact ⟨0, by simp, by omega, rfl, fun i h => by omega, Below.refl _ _⟩
  case round =>
    obtain ⟨j, rfl, hj, rfl, HU, HBW⟩ := hrel
    by_cases hlt : j < fs.length
    · go_wp2_with fail
      go_loopg [9] j (fun d i wq => ∃ (k : Nat), d = j - k ∧ k ≤ j ∧ i = .int .i64 k ∧ Hid (∀ k', k' < k → (fAt fs k').p ≠ (fAt fs j).p) ∧ Hid (Below w3.heap.size w3 wq))
      case atStart => exact ⟨0, by simp, by omega, rfl, fun k h => by omega, HBW.out⟩
      case round =>
        clear HBW
        obtain ⟨k, rfl, hk, rfl, HK, HBW⟩ := hrel
        have HR1 : Hid (Row wr S 2 (.slice A fs.length cap) fs.length (flatF fs)) := HF3.out.keep (SameOn.of_below HBW.out HOLD.out)
        by_cases hkj : k < j
        · have hkl : k < fs.length := by omega
          obtain ⟨g, o, rfl, -, hnc, a0, a1⟩ := row_at2 HR1.out hlt rfl
          obtain ⟨g2, o2, e2, -, -, c0, c1⟩ := row_at2 HR1.out hkl rfl
          cases e2
          cases he : (fs[k].p.toList == fs[j].p.toList) with
          | true =>
            have HN : Hid (applyP fs l = none) := HDUP.out (dup_same hlt hkj (by rw [fAt_at hkl, fAt_at hlt]; exact beq_path he))
            go_wp2_with fail
            go_quiet (fail)
            go_wp2_with fail
            go_ret2
            exact HR.out _ _ ⟨.inr ⟨HN.out, rfl⟩, HW3.out.trans ((below_drewN HBW.out _).mono hz3)⟩
          | false =>
            have HNE : Hid ((fAt fs k).p ≠ (fAt fs j).p) := by
              unfold Hid
              rw [fAt_at hkl, fAt_at hlt]
              intro e
              rw [e] at he
              simp at he
            go_wp2_with fail
            go_quiet (fail)
            go_wp2_with fail
            go_roundg (j - (k + 1))
            case measure => omega
            case rel =>
              refine ⟨k + 1, rfl, by omega, by go_num, fun k' hk' => ?_, below_drewN HBW.out _⟩
              by_cases e : k' < k
              · exact HK.out k' e
              · obtain rfl : k' = k := by omega
                exact HNE.out
        · obtain rfl : k = j := by omega
          go_wp2_with fail
          go_roundg (fs.length - (k + 1))
          case measure => omega
          case rel =>
            refine ⟨k + 1, rfl, by omega, by go_num, fun i hi => ?_, HBW.out⟩
            by_cases e : i < k
            · exact HU.out i e
            · obtain rfl : i = k := by omega
              exact HK.out
    · obtain rfl : j = fs.length := by omega
      have HUQ : Hid (uniqF fs) := HU.out
      clear HU
      go_wp2_with fail
      go_loopg [10] c.length (fun d i wr => ∃ (j : Nat), d = c.length - j ∧ j ≤ c.length ∧ i = .int .i64 j ∧ Hid (∀ i, i < j → found fs (eAt c i)) ∧ Hid (Below w3.heap.size w3 wr))
      case atStart => exact ⟨0, by simp, by omega, rfl, fun i h => by omega, HBW.out⟩
      case round =>
        clear HBW hj hlt
        obtain ⟨j, rfl, hj, rfl, HFO, HBW⟩ := hrel
        by_cases hlt : j < c.length
        · obtain ⟨x, hx⟩ : ∃ x, c[j] = x := ⟨_, rfl⟩
          have HX := Lib.hid hx
          clear hx
          go_wp2_with fail
          go_loopg [11, 12] fs.length (fun d fv kv wq => ∃ (k : Nat) (f : Bool), d = fs.length - k ∧ k ≤ fs.length ∧ fv = .bool f ∧ kv = .int .i64 k ∧ Hid (∀ b, b = f → b = true → found fs x) ∧ Hid (∀ b, b = f → b = false → ∀ k', k' < k → ¬((fAt fs k').p = x.p ∧ x.to ≤ ((fAt fs k').tx.size : Int))) ∧ Hid (Below w3.heap.size w3 wq))
          case atStart => exact ⟨0, false, by simp, by omega, rfl, rfl, (fun b h1 h2 => by subst h1; cases h2), (fun b h1 h2 k h => by omega), HBW.out⟩
          case round =>
            clear HBW
            obtain ⟨k, f, rfl, hk, rfl, rfl, HT, HNT, HBW⟩ := hrel
            have HR1 : Hid (Row wr S 2 (.slice A fs.length cap) fs.length (flatF fs)) := HF3.out.keep (SameOn.of_below HBW.out HOLD.out)
            have HOW : Hid (wr.ownsRow w.heap.size 33 4 (.slice B3 c.length b3) c.length (flat c)) := own_below HO3.out HBW.out
            by_cases hkl : k < fs.length
            · obtain ⟨g, o, rfl, -, hnc, a0, a1⟩ := row_at2 HR1.out hkl rfl
              obtain ⟨g2, cp, hv, -⟩ := HOW.out.form (by omega)
              cases hv
              obtain ⟨c0, c1, c2, c3⟩ := own_at4 HOW.out hlt rfl
              have hxx := HX.out
              rw [hxx] at c0 c1 c2 c3
              clear hxx
              cases f with
              | true =>
                have HT2 : Hid (found fs x) := HT.out true rfl rfl
                clear HT HNT
                go_wp2_with fail
                go_quiet (fail)
                go_wp2_with fail
                go_roundg (fs.length - (k + 1))
                case measure => omega
                case rel => exact ⟨k + 1, true, rfl, by omega, rfl, by go_num, (fun _ _ _ => HT2.out), (fun b h1 h2 => by subst h1; cases h2), below_drewN HBW.out _⟩
              | false =>
                have HN2 : Hid (∀ k', k' < k → ¬((fAt fs k').p = x.p ∧ x.to ≤ ((fAt fs k').tx.size : Int))) := HNT.out false rfl rfl
                clear HT HNT
                cases hp : (fs[k].p.toList == x.p.toList) with
                | false =>
                  have HN3 : Hid (∀ k', k' < k + 1 → ¬((fAt fs k').p = x.p ∧ x.to ≤ ((fAt fs k').tx.size : Int))) := fun k' hk' => by
                    by_cases e : k' < k
                    · exact HN2.out k' e
                    · obtain rfl : k' = k := by omega
                      rw [fAt_at hkl]
                      rintro ⟨h1, -⟩
                      rw [h1] at hp; simp at hp
                  clear HN2
                  go_wp2_with fail
                  go_quiet (fail)
                  go_wp2_with fail
                  go_roundg (fs.length - (k + 1))
                  case measure => omega
                  case rel => exact ⟨k + 1, false, rfl, by omega, rfl, by go_num, (fun b h1 h2 => by subst h1; cases h2), (fun _ _ _ => HN3.out), below_drewN HBW.out _⟩
                | true =>
                  by_cases ht : x.to ≤ (fs[k].tx.size : Int)
                  · have HT2 : Hid (found fs x) := ⟨k, hkl, by rw [fAt_at hkl]; exact beq_path hp, by rw [fAt_at hkl]; exact ht⟩
                    have hd : decide (x.to ≤ (fs[k].tx.size : Int)) = true := decide_eq_true ht
                    clear HN2
                    go_wp2_with fail
                    go_quiet (fail)
                    go_wp2_with fail
                    go_roundg (fs.length - (k + 1))
                    case measure => omega
                    case rel => exact ⟨k + 1, true, rfl, by omega, by simp, by go_num, (fun _ _ _ => HT2.out), (fun b h1 h2 => by subst h1; cases h2), below_drewN HBW.out _⟩
                  · have HN3 : Hid (∀ k', k' < k + 1 → ¬((fAt fs k').p = x.p ∧ x.to ≤ ((fAt fs k').tx.size : Int))) := fun k' hk' => by
                      by_cases e : k' < k
                      · exact HN2.out k' e
                      · obtain rfl : k' = k := by omega
                        rw [fAt_at hkl]
                        exact fun h => ht h.2
                    have hd : decide (x.to ≤ (fs[k].tx.size : Int)) = false := decide_eq_false ht
                    clear HN2
                    go_wp2_with fail
                    go_quiet (fail)
                    go_wp2_with fail
                    go_roundg (fs.length - (k + 1))
                    case measure => omega
                    case rel => exact ⟨k + 1, false, rfl, by omega, by simp, by go_num, (fun b h1 h2 => by subst h1; cases h2), (fun _ _ _ => HN3.out), below_drewN HBW.out _⟩
            · obtain rfl : k = fs.length := by omega
              cases f with
              | true =>
                have HT2 : Hid (∀ i, i < j + 1 → found fs (eAt c i)) := fun i hi => by
                  by_cases e : i < j
                  · exact HFO.out i e
                  · obtain rfl : i = j := by omega
                    rw [eAt_at hlt, HX.out]
                    exact HT.out true rfl rfl
                clear HT HNT HFO
                go_wp2_with fail
                go_roundg (c.length - (j + 1))
                case measure => omega
                case rel => exact ⟨j + 1, rfl, by omega, by go_num, HT2.out, HBW.out⟩
              | false =>
                have HN : Hid (applyP fs l = none) := HLOST.out x (by rw [← HX.out]; exact List.getElem_mem hlt) (fun h => by
                  obtain ⟨k, h1, h2, h3⟩ := h
                  exact HNT.out false rfl rfl k h1 ⟨h2, h3⟩)
                clear HT HNT HFO
                go_wp2_with fail
                go_ret2
                exact HR.out _ _ ⟨.inr ⟨HN.out, rfl⟩, HW3.out.trans (HBW.out.mono hz3)⟩
        · obtain rfl : j = c.length := by omega
          have HALL : Hid (∀ x ∈ c, found fs x) := fun x hx => by
            obtain ⟨i, hi, rfl⟩ := List.getElem_of_mem hx
            rw [← eAt_at hi]; exact HFO.out i hi
          have HSAFE : Hid (SafeT fs c) := safeT_of HUQ.out HSF.out HALL.out
          have HRES : Hid (applyP fs l = some (outF fs c fs.length)) := HREF.out HUQ.out HALL.out
          clear HFO HALL HLOST HDUP HREF HSF
          go_wp2_with fail
          go_loopg [13, 14] fs.length (fun d ov iv wr => ∃ (j : Nat), d = fs.length - j ∧ j ≤ fs.length ∧ iv = .int .i64 j ∧ Hid (wr.ownsRow w3.heap.size 43 2 ov j (flatF (outF fs c j))) ∧ Hid (Below w3.heap.size w3 wr))
          case atStart => exact ⟨0, by simp, by omega, rfl, World.ownsRow_nil _ _ _ _, HBW.out⟩
          case round =>
            clear HBW hj hlt
            obtain ⟨j, rfl, hj, rfl, HOF, HBW⟩ := hrel
            obtain ⟨D, cd, rfl⟩ := own_form HOF.out
            rename World => wo
            have hzo := HBW.out.size
            have HR1 : Hid (Row wo S 2 (.slice A fs.length cap) fs.length (flatF fs)) := HF3.out.keep (SameOn.of_below HBW.out HOLD.out)
            by_cases hlt : j < fs.length
            · obtain ⟨g, o, rfl, -, hnc, a0, a1⟩ := row_at2 HR1.out hlt rfl
              have HTZ : Hid (fs[j].tx.size ≤ 140737488355328) := by have := HSZ.out fs[j] (List.getElem_mem hlt); unfold Hid; omega
              obtain ⟨f, hfj⟩ : ∃ f, fs[j] = f := ⟨_, rfl⟩
              have HFJ : Hid (fAt fs j = f) := by unfold Hid; rw [fAt_at hlt, hfj]
              rw [hfj] at a0 a1 HTZ
              clear hfj
              go_wp2_with fail
              go_loopg [15, 16] c.length (fun d sv kv wq => ∃ (m : Nat) (n : Int) (T : ByteArray), d = c.length - m ∧ m ≤ c.length ∧ kv = .int .i64 n ∧ sv = .string T ∧ Hid (n = (c.length : Int) - 1 - m) ∧ Hid (T = refT f.tx f.p c m) ∧ T.size ≤ 140737488355328 ∧ Hid (Below wo.heap.size wo wq))
              case atStart => exact ⟨0, _, _, by simp, by omega, by go_num, rfl, (by unfold Hid; omega), rfl, HTZ.out, Below.refl _ _⟩
              case round =>
                clear a0 a1
                obtain ⟨m, n, T, rfl, hm, rfl, rfl, HN, HT, hts, HBQ⟩ := hrel
                have HBX : Hid (Below w3.heap.size w3 wr) := HBW.out.trans (HBQ.out.mono hzo)
                have HR2 : Hid (Row wr S 2 (.slice (some ⟨g, o, none⟩) fs.length cap) fs.length (flatF fs)) := HF3.out.keep (SameOn.of_below HBX.out HOLD.out)
                obtain ⟨g1, o1, e1, -, -, a0, a1⟩ := row_at2 HR2.out hlt rfl
                cases e1
                have hff := HFJ.out
                rw [fAt_at hlt] at hff
                rw [hff] at a0 a1
                clear hff
                by_cases hml : m < c.length
                · obtain ⟨ii, rfl⟩ : ∃ ii : Nat, n = ii := ⟨n.toNat, by have := HN.out; omega⟩
                  have hil : ii < c.length := by have := HN.out; omega
                  have HOW : Hid (wr.ownsRow w.heap.size 33 4 (.slice B3 c.length b3) c.length (flat c)) := own_below HO3.out HBX.out
                  obtain ⟨g2, cp, hv, -⟩ := HOW.out.form (by omega)
                  cases hv
                  obtain ⟨c0, c1, c2, c3⟩ := own_at4 HOW.out hil rfl
                  have HBE : Hid (backE c m = c[ii]) := by
                    unfold Hid
                    rw [backE_at (by omega)]
                    congr 1
                    have := HN.out
                    omega
                  have hge : decide (0 ≤ (ii : Int)) = true := decide_eq_true (by omega)
                  have hS1 : (backE c m).p = f.p → 0 ≤ (backE c m).fr ∧ (backE c m).fr ≤ (backE c m).to ∧ (backE c m).to ≤ (T.size : Int) ∧ (spl T (backE c m)).size ≤ 140737488355328 := fun h => by
                    have := HSAFE.out j hlt m hml (by rw [HFJ.out]; exact h)
                    rw [HFJ.out, ← HT.out] at this
                    exact this
                  have hST : refT f.tx f.p c (m + 1) = if (backE c m).p = f.p then spl T (backE c m) else T := by rw [refT, ← HT.out]
                  rw [HBE.out] at hS1 hST
                  obtain ⟨x, hx⟩ : ∃ x, c[ii] = x := ⟨_, rfl⟩
                  rw [hx] at c0 c1 c2 c3 hS1 hST
                  clear hx HBE
                  cases hp : (x.p.toList == f.p.toList) with
                  | false =>
                    have HT2 : Hid (T = refT f.tx f.p c (m + 1)) := by unfold Hid; rw [hST, if_neg (fun e => by rw [e] at hp; simp at hp)]
                    clear hS1 hST
                    go_wp2_with fail
                    go_quiet (fail)
                    go_wp2_with fail
                    go_roundg (c.length - (m + 1))
                    case measure => omega
                    case rel => exact ⟨m + 1, _, T, rfl, by omega, rfl, rfl, (by have := HN.out; unfold Hid; go_num), HT2.out, hts, below_drewN HBQ.out _⟩
                  | true =>
                    rw [if_pos (beq_path hp)] at hST
                    obtain ⟨s1, s2, s3, s4⟩ := hS1 (beq_path hp)
                    have s5 := spl_size s1 s2 s3
                    rw [spl_cat s3] at hST s4 s5
                    obtain ⟨p0, fr0, to0, tx0⟩ := x
                    simp only at c0 c1 c2 c3 hST s1 s2 s3 s4 s5 hp
                    obtain ⟨a, rfl⟩ : ∃ a : Nat, fr0 = a := ⟨fr0.toNat, by omega⟩
                    obtain ⟨b, rfl⟩ : ∃ b : Nat, to0 = b := ⟨to0.toNat, by omega⟩
                    simp only [Int.toNat_natCast] at hST s4 s5
                    have hab : a ≤ b := by omega
                    have hbt : b ≤ T.size := by omega
                    have hat : a ≤ T.size := by omega
                    have htx : tx0.size ≤ 140737488355328 := by omega
                    have HT2 := Lib.hid hST
                    have HS4 := Lib.hid s4
                    clear hST s1 s2 s3 s4 s5
                    go_wp2_with fail
                    go_quiet (fail)
                    go_wp2_with fail
                    go_quiet (fail)
                    go_wp2_with fail
                    go_roundg (c.length - (m + 1))
                    case measure => omega
                    case rel => exact ⟨m + 1, _, _, rfl, by omega, rfl, rfl, (by have := HN.out; unfold Hid; go_num), HT2.out.symm, HS4.out, below_drewN HBQ.out _⟩
                · obtain rfl : m = c.length := by omega
                  have hnn : decide (0 ≤ n) = false := decide_eq_false (by have := HN.out; omega)
                  have hzx := HBX.out.size
                  have hzq := HBQ.out.size
                  go_wp2_with (at_builtin; refine wpList_append_row _ rfl _ _ 34 rfl w3.heap.size 43 i0 _ 2 32 Try.underlying34 hi iz0 iz1 iz2 rfl (by omega) _ j (flatF (outF fs c j)) rfl ?c1 (fun _ => True) (.slice (some ⟨wr.heap.size, 0, none⟩) 1 1) 1 (flatF [⟨f.p, T⟩]) rfl ?c2 (flatF_one _) ?c3 ?c4 ?c5 ?_)
                  case c1 => exact own_below HOF.out (HBQ.out.alloc hzq _)
                  case c2 => exact row_blk (Blk.new wr 43 _) rfl (by decide) trivial
                  case c3 => unfold maxLen; omega
                  case c4 => omega
                  case c5 => simp; omega
                  intro v' w6 hown hg hnil hat
                  have HO6 : Hid (w6.ownsRow w3.heap.size 43 2 v' (j + 1) (flatF (outF fs c (j + 1)))) := by
                    unfold Hid
                    rw [outF_succ, flatF_app, HFJ.out, ← HT.out]; exact hown
                  have HB6 : Hid (Below w3.heap.size w3 w6) := (HBX.out.alloc hzx _).grown hg (by simp; omega) (own_ge HOF.out)
                  clear hown hg hnil hat HOF HBX HBQ
                  go_wp2_with fail
                  go_roundg (fs.length - (j + 1))
                  case measure => omega
                  case rel => exact ⟨j + 1, rfl, by omega, by go_num, HO6.out, HB6.out⟩
            · obtain rfl : j = fs.length := by omega
              have HOF2 : Hid (wo.ownsRow w.heap.size 43 2 (.slice D fs.length cd) (outF fs c fs.length).length (flatF (outF fs c fs.length))) := by
                unfold Hid
                rw [outF_len]
                refine ⟨HOF.out.1, ?_⟩
                rcases HOF.out.2 with h | ⟨g, c', cur, h1, h2, h3⟩
                · exact .inl h
                · exact .inr ⟨g, c', cur, h1, Nat.le_trans hz3 h2, h3⟩
              go_wp2_with fail
              go_ret2
              exact HR.out _ _ ⟨.inl ⟨_, HRES.out, _, rfl, HOF2.out⟩, HW3.out.trans (HBW.out.mono hz3)⟩
end Go.Proofs.Ytnonbonegbdfpaa
