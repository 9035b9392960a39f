/- recastlaw1.SpansIndent: the walk: true. -/
import Derived.Test.YtnonbonegbdfpaaDoorSpIndLaw
import Derived.Test.YtnonbonegbdfpaaDoorSpAwake
import Derived.Deep.RegionHeld3
import Derived.Deep.CutRange
import Derived.Laws.IdiomStrings
import Derived.Laws.BytesArg
import Derived.Test.YtnonbonegbdfpaaDoorSpMuchD
namespace Go.Proofs.YtnonbonegbdfpaaDoor
open Go Go.RowKit

theorem info_u8 : (Tryd.prog.info? 5).map (fun i => (i.zero, i.size, i.bytes)) = some (some (.int .u8 0), 1, 1) := by kernel_rfl
theorem nil_of_empty {b : ByteArray} (h : b.size = 0) : b = ⟨#[]⟩ := by
  apply ByteArray.ext
  exact Array.eq_empty_of_size_eq_zero h
theorem list_ne {b : ByteArray} (h : 0 < b.size) : (b.toList == []) = false := by
  rw [ByteArray.toList_eq]
  have hl : b.data.toList.length = b.size := Array.length_toList
  cases hb : b.data.toList with
  | nil => rw [hb] at hl; simp at hl; omega
  | cons x l => rfl
theorem list_ie {b : ByteArray} (h : 0 < b.size) : b.toList.isEmpty = false := by
  have := list_ne h
  cases hb : b.toList with
  | nil => rw [hb] at this; cases this
  | cons x l => rfl
theorem list_em {b : ByteArray} (h : b.size = 0) : b.toList.isEmpty = true := by
  rw [nil_of_empty h, ByteArray.toList_eq]; rfl
theorem below_drewP {B : Nat} {a b : World} (h : Below B a.drew b) : Below B a b := ⟨h.os, h.tape, h.output, h.size, h.block⟩
/-- string(bytes) of an own row -/
theorem conv_own {w : World} {base n : Nat} {v : Value} (h : w.ownsRow base 5 1 v n (u8s (bls n))) : (convert 24 9 v).run Tryd.prog w = .ok (.string (blS n)) w := by
  obtain ⟨A, c, rfl⟩ := own_form h
  rcases Nat.eq_zero_or_pos n with h0 | h0
  · subst h0
    rcases h.2 with ⟨h1, -⟩ | ⟨g, c', cur, h1, -⟩
    · cases h1
      exact run_convert_bytes_nil w 24 5 Tryd.underlying24 Tryd.underlying5 0 0 9 Tryd.underlying9
    · cases h1
      have := run_convert_bytes_back (P := Tryd.prog) w 24 9 5 ⟨g, 0, none⟩ c (bls 0) Tryd.underlying24 Tryd.underlying5 Tryd.underlying9 (fun j hj => by simp [bls] at hj)
      exact this
  · obtain ⟨g, c', hv, -⟩ := h.form h0
    cases hv
    have := run_convert_bytes_back (P := Tryd.prog) w 24 9 5 ⟨g, 0, none⟩ c (bls n) Tryd.underlying24 Tryd.underlying5 Tryd.underlying9 (fun j hj => by
      rw [bls_len] at hj
      have h2 := h.cellAt j (by omega)
      rw [show Addr.add ⟨g, 0, none⟩ j = ⟨g, j, none⟩ from by unfold Addr.add; split <;> simp_all, h2]
      simp [u8s, List.getElem?_map, List.getElem?_eq_getElem (show j < (bls n).length by rw [bls_len]; exact hj)])
    rw [bls_len] at this
    exact this

set_option maxHeartbeats 8000000 in
set_option maxRecDepth 100000 in
theorem spansIndent_walk {a b : ByteArray} {n m : Int} {w : World} (ha : a.size ≤ maxLen) (hb : b.size ≤ maxLen) :
    Calls Tryd.prog 4 #[.string a, .int .i64 n, .string b, .int .i64 m] w fun e w' => e = .returned (.bool true) ∧ Below w.heap.size w w' := by
  have HA : Hid (∀ w, Calls Tryd.prog 8 #[] w fun e w' => e = .returned (.bool true) ∧ Below w.heap.size w w') := fun w => awake_calls
  obtain ⟨i0, hi, iz0, iz1, iz2⟩ := info_parts info_u8
  have ha2 : a.size ≤ 9223372036854775807 := by unfold maxLen at ha; omega
  have hb2 : b.size ≤ 9223372036854775807 := by unfold maxLen at hb; omega
  clear ha hb
  by_cases h1 : 200 < a.size
  · have hd1 : decide (200 < a.size) = true := decide_eq_true h1
    go_enter Tryd.func4, Tryd.ntmps4
    go_wp2_with (go_at_call 8; refine (HA.out _).mono ?_; rintro e w' ⟨rfl, hb⟩)
    go_ret
    exact ⟨by simp, hb⟩
  have hd1 : decide (200 < a.size) = false := decide_eq_false h1
  by_cases h2 : 200 < b.size
  · have hd2 : decide (200 < b.size) = true := decide_eq_true h2
    go_enter Tryd.func4, Tryd.ntmps4
    go_wp2_with (go_at_call 8; refine (HA.out _).mono ?_; rintro e w' ⟨rfl, hb⟩)
    go_ret
    exact ⟨by simp, hb⟩
  have hd2 : decide (200 < b.size) = false := decide_eq_false h2
  by_cases h3 : n < 0
  · have hd3 : decide (n < 0) = true := decide_eq_true h3
    go_enter Tryd.func4, Tryd.ntmps4
    go_wp2_with (go_at_call 8; refine (HA.out _).mono ?_; rintro e w' ⟨rfl, hb⟩)
    go_ret
    exact ⟨by simp, hb⟩
  obtain ⟨k, rfl⟩ : ∃ k : Nat, n = k := ⟨n.toNat, by omega⟩
  by_cases h4 : 40 < k
  · have hd4 : decide (40 < k) = true := decide_eq_true h4
    go_enter Tryd.func4, Tryd.ntmps4
    go_wp2_with (go_at_call 8; refine (HA.out _).mono ?_; rintro e w' ⟨rfl, hb⟩)
    go_ret
    exact ⟨by simp, hb⟩
  have hd4 : decide (40 < k) = false := decide_eq_false h4
  by_cases hbl : isBl (b.data.toList[0]?)
  · have hb0 : 0 < b.size := by
      rcases Nat.eq_zero_or_pos b.size with h | h
      · rw [List.getElem?_eq_none (by rw [Array.length_toList]; show b.size ≤ 0; omega)] at hbl
        rcases hbl with e | e <;> cases e
      · exact h
    have hne := list_ie hb0
    have hb0I : (0 : Int) < (b.size : Int) := by omega
    have h32 := byte32 hb0
    have h9 := byte9 hb0
    rcases hbl with e | e
    · rw [decide_eq_true e] at h32
      clear h9
      go_enter Tryd.func4, Tryd.ntmps4
      go_wp2_with (go_at_call 8; refine (HA.out _).mono ?_; rintro e w' ⟨rfl, hb⟩)
      go_ret
      exact ⟨by simp, hb⟩
    · rw [decide_eq_true e] at h9
      rw [decide_eq_false (by rw [e]; simp)] at h32
      go_enter Tryd.func4, Tryd.ntmps4
      go_wp2_with (go_at_call 8; refine (HA.out _).mono ?_; rintro e w' ⟨rfl, hb⟩)
      go_ret
      exact ⟨by simp, hb⟩
  have HBL := Lib.hid hbl
  have hc : (b.size = 0 ∧ b.toList.isEmpty = true) ∨ (0 < b.size ∧ ((b.toList.isEmpty = false) ∧ ∀ h : 0 < b.size, (((b[0].toNat : Nat) : Int) == 32) = false ∧ (((b[0].toNat : Nat) : Int) == 9) = false)) := by
    rcases Nat.eq_zero_or_pos b.size with h | h
    · exact .inl ⟨h, list_em h⟩
    · refine .inr ⟨h, list_ie h, fun h' => ⟨?_, ?_⟩⟩
      · rw [byte32 h', decide_eq_false (fun e => hbl (.inl e))]
      · rw [byte9 h', decide_eq_false (fun e => hbl (.inr e))]
  clear hbl h3
  go_enter Tryd.func4, Tryd.ntmps4
  go_upto_region 1 with fail
  go_cut [41] from 12 to 41 (fun cv W => cv = .bool false ∧ W = w)
  case first =>
    rcases hc with ⟨hb0, hem⟩ | ⟨hb0, hem, hby⟩
    · go_wp2_with fail
      go_meet
      exact ⟨by first | (simp; done) | (simp; omega), rfl⟩
    · obtain ⟨h32, h9⟩ := hby hb0
      have hb0I : (0 : Int) < (b.size : Int) := by omega
      clear hby
      go_wp2_with fail
      go_meet
      exact ⟨by first | (simp; done) | (simp; omega), rfl⟩
  case rest =>
    obtain ⟨rfl, rfl⟩ := hcut
    clear hc
    go_wp2_with fail
    go_loopg [9, 10] k (fun d v iv wr => ∃ (j : Nat), d = k - j ∧ j ≤ k ∧ iv = .int .i64 j ∧ Hid (wr.ownsRow wc.heap.size 5 1 v j (u8s (bls j))) ∧ Hid (Below wc.heap.size wc wr))
    case atStart => exact ⟨0, by simp, by omega, rfl, World.ownsRow_nil _ _ _ _, Below.refl _ _⟩
    case round =>
      obtain ⟨j, rfl, hj, rfl, HO, HBW⟩ := hrel
      have hzr := HBW.out.size
      by_cases hlt : j < k
      · have hm0 : j % 2 = 0 ∨ j % 2 = 1 := by omega
        rcases hm0 with hm0 | hm0
        · have hmt : (j : Int).tmod 2 = 0 := (Int.tmod_eq_emod_of_nonneg (Int.natCast_nonneg j)).trans (by omega)
          have HBS : Hid (u8s (bls (j + 1)) = u8s (bls j) ++ u8s [32]) := by unfold Hid; rw [bls_succ, if_pos hm0]; simp [u8s]
          clear hm0
          go_wp2_with (at_builtin; refine wpList_append_row _ rfl _ _ 24 rfl wc.heap.size 5 i0 _ 1 1 Tryd.underlying24 hi iz0 iz1 iz2 rfl (by omega) _ j (u8s (bls j)) rfl ?c1 (fun _ => True) (.slice (some ⟨wr.heap.size, 0, none⟩) 1 1) 1 (u8s [32]) rfl ?c2 (u8s_one _) ?c3 ?c4 ?c5 ?_)
          case c1 => exact own_below HO.out ((Below.refl _ _).alloc (Nat.le_refl _) _)
          case c2 => exact row_blk (Blk.new wr 5 _) rfl (by decide) trivial
          case c3 => unfold maxLen; omega
          case c4 => omega
          case c5 => simp; omega
          intro v' w3 hown hg hnil hat
          have HO3 : Hid (w3.ownsRow wc.heap.size 5 1 v' (j + 1) (u8s (bls (j + 1)))) := by unfold Hid; rw [HBS.out]; exact hown
          have HB3 : Hid (Below wc.heap.size wc w3) := (HBW.out.alloc hzr _).grown hg (by simp; omega) (own_ge HO.out)
          clear hown hg hnil hat HBS hmt
          go_wp2_with fail
          go_roundg (k - (j + 1))
          case measure => omega
          case rel => exact ⟨j + 1, rfl, by omega, by go_num, HO3.out, HB3.out⟩
        · have hmt : (j : Int).tmod 2 = 1 := (Int.tmod_eq_emod_of_nonneg (Int.natCast_nonneg j)).trans (by omega)
          have HBS : Hid (u8s (bls (j + 1)) = u8s (bls j) ++ u8s [9]) := by unfold Hid; rw [bls_succ, if_neg (by omega)]; simp [u8s]
          clear hm0
          go_wp2_with (at_builtin; refine wpList_append_row _ rfl _ _ 24 rfl wc.heap.size 5 i0 _ 1 1 Tryd.underlying24 hi iz0 iz1 iz2 rfl (by omega) _ j (u8s (bls j)) rfl ?c1 (fun _ => True) (.slice (some ⟨wr.heap.size, 0, none⟩) 1 1) 1 (u8s [9]) rfl ?c2 (u8s_one _) ?c3 ?c4 ?c5 ?_)
          case c1 => exact own_below HO.out ((Below.refl _ _).alloc (Nat.le_refl _) _)
          case c2 => exact row_blk (Blk.new wr 5 _) rfl (by decide) trivial
          case c3 => unfold maxLen; omega
          case c4 => omega
          case c5 => simp; omega
          intro v' w3 hown hg hnil hat
          have HO3 : Hid (w3.ownsRow wc.heap.size 5 1 v' (j + 1) (u8s (bls (j + 1)))) := by unfold Hid; rw [HBS.out]; exact hown
          have HB3 : Hid (Below wc.heap.size wc w3) := (HBW.out.alloc hzr _).grown hg (by simp; omega) (own_ge HO.out)
          clear hown hg hnil hat HBS hmt
          go_wp2_with fail
          go_roundg (k - (j + 1))
          case measure => omega
          case rel => exact ⟨j + 1, rfl, by omega, by go_num, HO3.out, HB3.out⟩
      · obtain rfl : j = k := by omega
        obtain ⟨A, c, rfl⟩ := own_form HO.out
        rename World => wo
        go_wp2_with fail
        go_loopg [11] b.size (fun d iv wr => ∃ (i : Nat), d = b.size - i ∧ i ≤ b.size ∧ iv = .int .i64 i ∧ Hid (∀ x : Nat, x < i → b.data.toList[x]? ≠ some 10) ∧ wr = wo)
        case atStart => exact ⟨0, by simp, by omega, rfl, fun x h => by omega, rfl⟩
        case round =>
          obtain ⟨i, rfl, hib, rfl, HNL, rfl⟩ := hrel
          by_cases hilt : i < b.size
          · have hbt := byte10 hilt
            have hltI : (i : Int) < (b.size : Int) := by omega
            cases hb : decide (b.data.toList[i]? = some 10) with
            | true =>
              rw [hb] at hbt
              clear hb
              go_wp2_with (go_at_call 8; refine (HA.out _).mono ?_; rintro e w' ⟨rfl, hb⟩)
              go_ret
              exact ⟨by simp, HBW.out.trans (hb.mono hzr)⟩
            | false =>
              rw [hb] at hbt
              have HN2 : Hid (∀ x : Nat, x < i + 1 → b.data.toList[x]? ≠ some 10) := fun x hx => by
                by_cases e : x < i
                · exact HNL.out x e
                · obtain rfl : x = i := by omega
                  exact of_decide_eq_false hb
              clear hb HNL
              go_wp2_with fail
              go_roundg (b.size - (i + 1))
              case measure => omega
              case rel => exact ⟨i + 1, rfl, by omega, by go_num, HN2.out, rfl⟩
          · obtain rfl : i = b.size := by omega
            have HNN : Hid (∀ x : Nat, b.data.toList[x]? ≠ some 10) := fun x hx => by
              rcases Nat.lt_or_ge x b.size with h | h
              · exact HNL.out x h hx
              · rw [List.getElem?_eq_none (by rw [Array.length_toList]; exact h)] at hx; cases hx
            have hltI : ¬(b.size : Int) < (b.size : Int) := by omega
            clear HNL
            by_cases hm1 : m < 0
            · have hd5 : decide (m < 0) = true := decide_eq_true hm1
              go_wp2_with (go_at_call 8; refine (HA.out _).mono ?_; rintro e w' ⟨rfl, hb⟩)
              all_goals (go_ret; exact ⟨by simp, HBW.out.trans (hb.mono hzr)⟩)
            obtain ⟨q, rfl⟩ : ∃ q : Nat, m = q := ⟨m.toNat, by omega⟩
            by_cases hm2 : j + b.size < q
            · have hd5 : decide (j + b.size < q) = true := decide_eq_true hm2
              go_wp2_with (go_at_call 8; refine (HA.out _).mono ?_; rintro e w' ⟨rfl, hb⟩)
              all_goals (go_ret; exact ⟨by simp, HBW.out.trans (hb.mono hzr)⟩)
            have hd5 : decide (j + b.size < q) = false := decide_eq_false hm2
            have hq : q ≤ j + b.size := by omega
            have HCO : Hid (∀ W, Below wr.heap.size wr W → (convert 24 9 (.slice A j c)).run Tryd.prog W = .ok (.string (blS j)) W) := fun W h => conv_own (own_below HO.out h)
            have HI : Hid (∀ W, Calls Tryd.prog 9 #[.string (a ++ ⟨#[10]⟩ ++ blS j ++ b), .int .i64 ((a.size : Int) + 1 + q)] W fun e w' => e = .returned (.string (blS j)) ∧ Below W.heap.size W w') := fun W => by
              have hin : inS (txt3 a j b) (((a.size + 1 + q : Nat)) : Int) = a.size + 1 + q := inS_in _ (by rw [txt3_size]; omega)
              have h5 := indent_calls (s := txt3 a j b) (i := ((a.size + 1 + q : Nat) : Int)) (w := W) (by rw [txt3_size]; omega) (by rw [hin]; exact txt3_bol HNN.out) (txt3_blk HBL.out)
              rw [txt3_ext] at h5
              have e : ((a.size + 1 + q : Nat) : Int) = (a.size : Int) + 1 + q := by omega
              rw [e] at h5
              exact h5
            have hbs := blS_size j
            have e1 : ¬9223372036854775807 < a.size + 1 := by omega
            have e2 : ¬9223372036854775807 < a.size + 1 + j := by omega
            have e3 : ¬9223372036854775807 < a.size + 1 + j + b.size := by omega
            have hw1 : IntKind.i64.wrap ((a.size : Int) + 1) = (a.size : Int) + 1 := by rw [IntKind.wrap_i64]; omega
            have hw2 : IntKind.i64.wrap ((a.size : Int) + 1 + (q : Int)) = (a.size : Int) + 1 + q := by rw [IntKind.wrap_i64]; omega
            have hcd := HCO.out wr.drew (below_drewN (Below.refl _ _) 1)
            clear hd5 hm1
            go_wp2_with fail
            refine wp_region_held_drew (S := fun w' => (convert 24 9 (.slice A j c)).run Tryd.prog w' = .ok (.string (blS j)) w') (by kernel_rfl) hcd (fun hHeld => ?_)
            refine wpAnyH_take (i := 0) (v := ?_) rfl (by kernel_rfl) (by kernel_rfl) (by kernel_rfl) (fun _ _ _ h => h) (Or.inl ⟨by rfl, ?_⟩) (by assumption) ?_
            rotate_left
            · intro V hSw
              try dsimp only at hSw
              try simp only [List.getElem_toArray, List.getElem_cons_zero]
              go_simp
              first | done | rfl
            try simp only [Act.put, List.getElem_toArray, List.getElem_cons_zero, List.setIfInBounds_toArray, List.set_cons_zero, List.set_cons_succ]
            refine wpAnyH_take (i := 1) (v := ?_) rfl (by kernel_rfl) (by kernel_rfl) (by kernel_rfl) (fun _ _ _ h => h) (Or.inl ⟨by rfl, ?_⟩) (by assumption) ?_
            rotate_left
            · intro V hSw
              try dsimp only at hSw
              try simp only [List.getElem_toArray, List.getElem_cons_zero, List.getElem_cons_succ]
              go_simp
              first | done | rfl
            try simp only [Act.put, List.getElem_toArray, List.getElem_cons_zero, List.getElem_cons_succ, List.setIfInBounds_toArray, List.set_cons_zero, List.set_cons_succ]
            refine wpAnyH_take (i := 2) (v := ?_) rfl (by kernel_rfl) (by kernel_rfl) (by kernel_rfl) (fun _ _ _ h => h) (Or.inl ⟨by rfl, ?_⟩) (by assumption) ?_
            rotate_left
            · intro V hSw
              try dsimp only at hSw
              try simp only [List.getElem_toArray, List.getElem_cons_zero, List.getElem_cons_succ]
              go_simp
              first | done | rfl
            try simp only [Act.put, List.getElem_toArray, List.getElem_cons_zero, List.getElem_cons_succ, List.setIfInBounds_toArray, List.set_cons_zero, List.set_cons_succ]
            refine wpAnyH_take (i := 3) (v := ?_) rfl (by kernel_rfl) (by kernel_rfl) (by kernel_rfl) (fun _ _ _ h => h) (Or.inl ⟨by rfl, ?_⟩) (by assumption) ?_
            rotate_left
            · intro V hSw
              try dsimp only at hSw
              try simp only [List.getElem_toArray, List.getElem_cons_zero, List.getElem_cons_succ]
              go_simp
              first | done | rfl
            try simp only [Act.put, List.getElem_toArray, List.getElem_cons_zero, List.getElem_cons_succ, List.setIfInBounds_toArray, List.set_cons_zero, List.set_cons_succ]
            refine wpAnyH_take (i := 4) (v := ?_) rfl (by kernel_rfl) (by kernel_rfl) (by kernel_rfl) (fun _ _ _ h => h) (Or.inl ⟨by rfl, ?_⟩) (by assumption) ?_
            rotate_left
            · intro V hSw
              try dsimp only at hSw
              try simp only [List.getElem_toArray, List.getElem_cons_zero, List.getElem_cons_succ]
              go_simp
              first | done | rfl
            try simp only [Act.put, List.getElem_toArray, List.getElem_cons_zero, List.getElem_cons_succ, List.setIfInBounds_toArray, List.set_cons_zero, List.set_cons_succ]
            refine wpAnyH_take (i := 5) (v := ?_) rfl (by kernel_rfl) (by kernel_rfl) (by kernel_rfl) (fun _ _ _ h => h) (Or.inl ⟨by rfl, ?_⟩) (by assumption) ?_
            rotate_left
            · intro V hSw
              try dsimp only at hSw
              try simp only [List.getElem_toArray, List.getElem_cons_zero, List.getElem_cons_succ]
              go_simp
              first | done | rfl
            try simp only [Act.put, List.getElem_toArray, List.getElem_cons_zero, List.getElem_cons_succ, List.setIfInBounds_toArray, List.set_cons_zero, List.set_cons_succ]
            refine wpAnyH_take (i := 6) (v := ?_) rfl (by kernel_rfl) (by kernel_rfl) (by kernel_rfl) (fun _ _ _ h => h) (Or.inl ⟨by rfl, ?_⟩) (by assumption) ?_
            rotate_left
            · intro V hSw
              try dsimp only at hSw
              try simp only [List.getElem_toArray, List.getElem_cons_zero, List.getElem_cons_succ]
              go_simp
              first | done | rfl
            try simp only [Act.put, List.getElem_toArray, List.getElem_cons_zero, List.getElem_cons_succ, List.setIfInBounds_toArray, List.set_cons_zero, List.set_cons_succ]
            refine wpAnyH_take (i := 7) (v := ?_) rfl (by kernel_rfl) (by kernel_rfl) (by kernel_rfl) (fun _ _ _ h => h) (Or.inl ⟨by rfl, ?_⟩) (by assumption) ?_
            rotate_left
            · intro V hSw
              try dsimp only at hSw
              try simp only [List.getElem_toArray, List.getElem_cons_zero, List.getElem_cons_succ]
              go_simp
              first | done | rfl
            try simp only [Act.put, List.getElem_toArray, List.getElem_cons_zero, List.getElem_cons_succ, List.setIfInBounds_toArray, List.set_cons_zero, List.set_cons_succ]
            refine wpAnyH_take (i := 8) (v := ?_) rfl (by kernel_rfl) (by kernel_rfl) (by kernel_rfl) (fun _ _ _ h => h) (Or.inl ⟨by rfl, ?_⟩) (by assumption) ?_
            rotate_left
            · intro V hSw
              try dsimp only at hSw
              try simp only [List.getElem_toArray, List.getElem_cons_zero, List.getElem_cons_succ]
              go_simp
              first | done | rfl
            try simp only [Act.put, List.getElem_toArray, List.getElem_cons_zero, List.getElem_cons_succ, List.setIfInBounds_toArray, List.set_cons_zero, List.set_cons_succ]
            refine wpAnyH_take (i := 9) (v := ?_) rfl (by kernel_rfl) (by kernel_rfl) (by kernel_rfl) (fun _ _ _ h => h) (Or.inl ⟨by rfl, ?_⟩) (by assumption) ?_
            rotate_left
            · intro V hSw
              try dsimp only at hSw
              try simp only [List.getElem_toArray, List.getElem_cons_zero, List.getElem_cons_succ]
              go_simp
              first | done | rfl
            try simp only [Act.put, List.getElem_toArray, List.getElem_cons_zero, List.getElem_cons_succ, List.setIfInBounds_toArray, List.set_cons_zero, List.set_cons_succ]
            refine wpAnyH_take (i := 10) (v := ?_) rfl (by kernel_rfl) (by kernel_rfl) (by kernel_rfl) (fun _ _ _ h => h) (Or.inl ⟨by rfl, ?_⟩) (by assumption) ?_
            rotate_left
            · intro V hSw
              try dsimp only at hSw
              try simp only [List.getElem_toArray, List.getElem_cons_zero, List.getElem_cons_succ]
              go_simp
              first | done | rfl
            try simp only [Act.put, List.getElem_toArray, List.getElem_cons_zero, List.getElem_cons_succ, List.setIfInBounds_toArray, List.set_cons_zero, List.set_cons_succ]
            refine wpAnyH_take (i := 11) (v := ?_) rfl (by kernel_rfl) (by kernel_rfl) (by kernel_rfl) (fun _ _ _ h => h) (Or.inl ⟨by rfl, ?_⟩) (by assumption) ?_
            rotate_left
            · intro V hSw
              try dsimp only at hSw
              try simp only [List.getElem_toArray, List.getElem_cons_zero, List.getElem_cons_succ]
              go_simp
              first | done | rfl
            try simp only [Act.put, List.getElem_toArray, List.getElem_cons_zero, List.getElem_cons_succ, List.setIfInBounds_toArray, List.set_cons_zero, List.set_cons_succ]
            refine wpAnyH_take (i := 13) (v := ?_) rfl (by kernel_rfl) (by kernel_rfl) (by kernel_rfl) (fun _ _ _ h => h) (Or.inl ⟨by rfl, ?_⟩) (by assumption) ?_
            rotate_left
            · intro V hSw
              try dsimp only at hSw
              try simp only [List.getElem_toArray, List.getElem_cons_zero, List.getElem_cons_succ]
              go_simp
              first | done | rfl
            try simp only [Act.put, List.getElem_toArray, List.getElem_cons_zero, List.getElem_cons_succ, List.setIfInBounds_toArray, List.set_cons_zero, List.set_cons_succ]
            refine wpAnyH_take (i := 14) (v := ?_) rfl (by kernel_rfl) (by kernel_rfl) (by kernel_rfl) (fun _ _ _ h => h) (Or.inl ⟨by rfl, ?_⟩) (by assumption) ?_
            rotate_left
            · intro V hSw
              try dsimp only at hSw
              try simp only [List.getElem_toArray, List.getElem_cons_zero, List.getElem_cons_succ]
              go_simp
              first | done | rfl
            try simp only [Act.put, List.getElem_toArray, List.getElem_cons_zero, List.getElem_cons_succ, List.setIfInBounds_toArray, List.set_cons_zero, List.set_cons_succ]
            refine wpAnyH_ready (rs := [12]) (by kernel_rfl) (by simp) ?_
            refine AllReadyH.cons rfl (fun K hK => ?_) AllReadyH.nil
            try simp only [List.getElem_toArray, List.getElem_cons_zero, List.getElem_cons_succ]
            go_simp
            refine (HI.out _).mono ?_
            rintro e w5 ⟨rfl, hb5⟩
            have HB5 : Hid (Below wr.heap.size wr w5) := below_drewP hb5
            clear hb5
            refine hK.out _ _ (HCO.out w5 HB5.out) (fun hHeld => ?_)
            clear hK K
            try simp only [Act.put, List.getElem_toArray, List.getElem_cons_zero, List.getElem_cons_succ, List.setIfInBounds_toArray, List.set_cons_zero, List.set_cons_succ]
            refine wpAnyH_take (i := 15) (v := ?_) rfl (by kernel_rfl) (by kernel_rfl) (by kernel_rfl) (fun _ _ _ h => h) (Or.inl ⟨by rfl, ?_⟩) (by assumption) ?_
            rotate_left
            · intro V hSw
              try dsimp only at hSw
              try simp only [List.getElem_toArray, List.getElem_cons_zero, List.getElem_cons_succ]
              go_simp
              first | done | rfl
            try simp only [Act.put, List.getElem_toArray, List.getElem_cons_zero, List.getElem_cons_succ, List.setIfInBounds_toArray, List.set_cons_zero, List.set_cons_succ]
            refine wpAnyH_take (i := 16) (v := ?_) rfl (by kernel_rfl) (by kernel_rfl) (by kernel_rfl) (fun _ _ _ h => h) (Or.inl ⟨by rfl, ?_⟩) (by assumption) ?_
            rotate_left
            · intro V hSw
              try dsimp only at hSw
              try simp only [List.getElem_toArray, List.getElem_cons_zero, List.getElem_cons_succ]
              go_simp
              first | done | rfl
            try simp only [Act.put, List.getElem_toArray, List.getElem_cons_zero, List.getElem_cons_succ, List.setIfInBounds_toArray, List.set_cons_zero, List.set_cons_succ]
            refine wpAnyH_ready (rs := [17]) (by kernel_rfl) (by simp) ?_
            refine AllReadyH.cons rfl (fun K hK => ?_) AllReadyH.nil
            try simp only [List.getElem_toArray, List.getElem_cons_zero, List.getElem_cons_succ]
            go_simp
            refine (HA.out _).mono ?_
            rintro e w7 ⟨rfl, hb7⟩
            have HB7 : Hid (Below wr.heap.size wr w7) := HB5.out.trans (hb7.mono HB5.out.size)
            clear hb7
            refine hK.out _ _ (HCO.out w7 HB7.out) (fun hHeld => ?_)
            clear hK K
            try simp only [Act.put, List.getElem_toArray, List.getElem_cons_zero, List.getElem_cons_succ, List.setIfInBounds_toArray, List.set_cons_zero, List.set_cons_succ]
            refine wpAnyH_take (i := 18) (v := ?_) rfl (by kernel_rfl) (by kernel_rfl) (by kernel_rfl) (fun _ _ _ h => h) (Or.inl ⟨by rfl, ?_⟩) (by assumption) ?_
            rotate_left
            · intro V hSw
              try dsimp only at hSw
              try simp only [List.getElem_toArray, List.getElem_cons_zero, List.getElem_cons_succ]
              go_simp
              first | done | rfl
            try simp only [Act.put, List.getElem_toArray, List.getElem_cons_zero, List.getElem_cons_succ, List.setIfInBounds_toArray, List.set_cons_zero, List.set_cons_succ]
            refine wpAnyH_take (i := 19) (v := ?_) rfl (by kernel_rfl) (by kernel_rfl) (by kernel_rfl) (fun _ _ _ h => h) (Or.inl ⟨by rfl, ?_⟩) (by assumption) ?_
            rotate_left
            · intro V hSw
              try dsimp only at hSw
              try simp only [List.getElem_toArray, List.getElem_cons_zero, List.getElem_cons_succ]
              go_simp
              first | done | rfl
            try simp only [Act.put, List.getElem_toArray, List.getElem_cons_zero, List.getElem_cons_succ, List.setIfInBounds_toArray, List.set_cons_zero, List.set_cons_succ]
            refine wpAnyH_done (by kernel_rfl) ?_ _
            go_wp2_with fail
            go_ret
            exact ⟨by simp, HBW.out.trans (HB7.out.mono hzr)⟩
end Go.Proofs.YtnonbonegbdfpaaDoor
