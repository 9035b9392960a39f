/- types.Make once more (the kids' array is the call's own), types.Name, and the document's Make and Name. -/
import Derived.Test.YtanhdklaponekaaMake
namespace Go.Proofs.Ytanhdklaponekaa
open Go Go.RowKit

def nT (k : Int) (n : Nat) : Int := if k = 13 then n else 0

theorem own_less {w : World} {base base' : Nat} {e : TypeId} {size n : Nat} {v : Value} {xs : List Value} (h : w.ownsRow base e size v n xs) (hb : base' ≤ base) : w.ownsRow base' e size v n xs :=
  ⟨h.1, h.2.imp id fun ⟨g, cap, cur, e, hg, r⟩ => ⟨g, cap, cur, e, Nat.le_trans hb hg, r⟩⟩

set_option maxHeartbeats 1000000 in
theorem make_own {k : Int} {ks : List T} {v : Value} {w : World} {S : Nat → Prop} (ho : T.okL ks) (hl : ks.length * 112 ≤ Lim) (h : RowT w S v ks) (hS : Old S w) :
    Calls Try.prog 13 #[.int .i64 k, v] w fun e w' => ∃ u xs, e = .returned (.agg #[.int .i64 k, .string ⟨#[]⟩, .int .i64 (nT k ks.length), .bool false, .slice none 0 0, .slice none 0 0, u]) ∧
      w'.ownsRow w.heap.size 26 7 u ks.length xs ∧ TysR w' (fun b => New w w' b ∧ u.ownBlock ≠ some b) ks xs ∧ Below w.heap.size w w' := by
  obtain ⟨A, cap, rfl, hlen⟩ := h.form
  have H := Lib.hid h
  have HS := Lib.hid hS
  have HO := Lib.hid ho
  have HL := Lib.hid hl
  clear h hS ho hl
  go_enter Try.func13, Try.ntmps13
  go_wp2_with fail
  refine (owns_calls HO.out HL.out (H.out.al HS.out _) (HS.out.alloc _)).mono ?_
  rintro e w1 ⟨v1, xs, rfl, ho1, ht1, hb1⟩
  obtain ⟨A1, c1, rfl⟩ := own_form ho1
  have hz1 := hb1.size
  simp at hz1
  have hB : Blk w1 w.heap.size 26 #[.int .i64 0, .string ⟨#[]⟩, .int .i64 0, .bool false, .slice none 0 0, .slice none 0 0, .slice none 0 0] :=
    (Blk.new w _ _).below hb1 (by simp)
  obtain ⟨g0, g1, g2, g3, g4, g5, g6, gf⟩ := hB.cells7
  have hlt : w.heap.size < w1.heap.size := by omega
  have hne : ¬ w.heap.size = w1.heap.size := by omega
  have hbw : Below w.heap.size w w1 := ((Below.refl _ _).alloc (Nat.le_refl _) _).trans (hb1.mono (by simp))
  have HBW := Lib.hid hbw
  have HO1 : Hid (w1.ownsRow (w.heap.size + 1) 26 7 (.slice A1 ks.length c1) ks.length xs) := by unfold Hid; simpa using ho1
  have HT1 : Hid (TysR w1 (fun b => (w.heap.size + 1 ≤ b ∧ b < w1.heap.size) ∧ (Value.slice A1 ks.length c1).ownBlock ≠ some b) ks xs) := ht1.keep (SameOn.refl _ _) (fun b hb => by have h1 := hb.1.1; simp at h1; exact ⟨⟨h1, hb.1.2⟩, hb.2⟩)
  clear ho1 ht1 hb1 hB hz1 hbw
  by_cases hk : k = 13
  · subst hk
    go_wp2_with fail
    refine bodyPost_ret (v := .agg #[.int .i64 13, .string ⟨#[]⟩, .int .i64 ks.length, .bool false, .slice none 0 0, .slice none 0 0, .slice A1 ks.length c1]) (by simp [results, Try.results13, go_sem, g0, g1, g2, g3, g4, g5, g6, hlt]) rfl ⟨_, xs, by rw [nT, if_pos rfl], ?_, ?_, ?_⟩
    · refine own_less (base := w.heap.size + 1) ?_ (by omega)
      refine World.ownsRow.alloc ?_ _
      repeat (refine ownsRow_setCell_below ?_ (by simp) _)
      exact HO1.out
    · refine HT1.out.keep ?_ (fun b hb => ⟨⟨by have := hb.1.1; omega, by have := hb.1.2; simp; omega⟩, hb.2⟩)
      refine SameOn.alloc ?_ (fun b hb => by simp; exact hb.1.2) _
      repeat (refine SameOn.set_ ?_ (by simp; try omega) _)
      exact SameOn.refl _ _
    · refine Below.alloc ?_ (by simp; omega) _
      repeat (refine Below.setCell ?_ (by simp) _)
      exact HBW.out
  · have hkb : (k == 13) = false := by simpa using hk
    have HK := Lib.hid hk
    clear hk
    go_wp2_with fail
    refine bodyPost_ret (v := .agg #[.int .i64 k, .string ⟨#[]⟩, .int .i64 0, .bool false, .slice none 0 0, .slice none 0 0, .slice A1 ks.length c1]) (by simp [results, Try.results13, go_sem, g0, g1, g2, g3, g4, g5, g6, hlt]) rfl ⟨_, xs, by rw [nT, if_neg HK.out], ?_, ?_, ?_⟩
    · refine own_less (base := w.heap.size + 1) ?_ (by omega)
      refine World.ownsRow.alloc ?_ _
      repeat (refine ownsRow_setCell_below ?_ (by simp) _)
      exact HO1.out
    · refine HT1.out.keep ?_ (fun b hb => ⟨⟨by have := hb.1.1; omega, by have := hb.1.2; simp; omega⟩, hb.2⟩)
      refine SameOn.alloc ?_ (fun b hb => by simp; exact hb.1.2) _
      repeat (refine SameOn.set_ ?_ (by simp; try omega) _)
      exact SameOn.refl _ _
    · refine Below.alloc ?_ (by simp; omega) _
      repeat (refine Below.setCell ?_ (by simp) _)
      exact HBW.out

theorem name_cells {nm : ByteArray} {w : World} : Calls Try.prog 20 #[.string nm] w fun e w' => e = .returned (.agg #[.int .i64 8, .string nm, .int .i64 0, .bool false, .slice none 0 0, .slice none 0 0, .slice none 0 0]) ∧ Below w.heap.size w w' := by
  go_enter Try.func20, Try.ntmps20
  go_wp2_with fail
  refine bodyPost_ret (v := .agg #[.int .i64 8, .string nm, .int .i64 0, .bool false, .slice none 0 0, .slice none 0 0, .slice none 0 0]) (by simp [results, Try.results20, go_sem]) rfl ⟨rfl, ?_⟩
  first | exact (Below.refl _ _).alloc (Nat.le_refl _) _ | (repeat (refine Below.setCell ?_ (by simp) _); exact (Below.refl _ _).alloc (Nat.le_refl _) _)
theorem rname_cells {nm : ByteArray} {w : World} : Calls Try.prog 21 #[.string nm] w fun e w' => e = .returned (.agg #[.int .i64 8, .string nm, .int .i64 0, .bool false, .slice none 0 0, .slice none 0 0, .slice none 0 0]) ∧ Below w.heap.size w w' := by
  go_enter Try.func21, Try.ntmps21
  go_wp2_with fail
  refine bodyPost_ret (v := .agg #[.int .i64 8, .string nm, .int .i64 0, .bool false, .slice none 0 0, .slice none 0 0, .slice none 0 0]) (by simp [results, Try.results21, go_sem]) rfl ⟨rfl, ?_⟩
  first | exact (Below.refl _ _).alloc (Nat.le_refl _) _ | (repeat (refine Below.setCell ?_ (by simp) _); exact (Below.refl _ _).alloc (Nat.le_refl _) _)
theorem name_R (w : World) (S : Nat → Prop) (nm : ByteArray) : TyR w S (nameT nm) [.int .i64 8, .string nm, .int .i64 0, .bool false, .slice none 0 0, .slice none 0 0, .slice none 0 0] := mk_close (rowT_nil w S) (SameOn.refl S w) (fun _ h => h)

set_option maxHeartbeats 2000000 in
set_option maxRecDepth 100000 in
theorem rmake_calls {k : Int} {ks : List T} {v : Value} {w : World} {S : Nat → Prop} (hl : ks.length * 112 ≤ Lim) (h : RowT w S v ks) (hS : Old S w) :
    Calls Try.prog 19 #[.int .i64 k, v] w fun e w' => ∃ cs : List Value, e = .returned (.agg cs.toArray) ∧ TyR w' (fun b => S b ∨ New w w' b) (mkT k ks) cs ∧ Below w.heap.size w w' := by
  obtain ⟨i0, hi, iz0, iz1, iz2⟩ := info_parts info_types
  obtain ⟨A, cap, rfl, hlen⟩ := h.form
  obtain ⟨xs, hx1, hx2⟩ := h
  have HX1 := Lib.hid hx1
  have HX2 := Lib.hid hx2
  have HONE : Hid (∀ u ∈ xs, u.oneCell' = true) := tysR_one hx2
  have HS := Lib.hid hS
  have hl2 : ks.length ≤ 1256584717458 := by unfold Lim at hl; omega
  clear hx1 hx2 hS hl
  go_enter Try.func19, Try.ntmps19
  obtain ⟨X, hX⟩ : ∃ X, (w.alloc (.cells #[.int .i64 0, .string ⟨#[]⟩, .int .i64 0, .bool false, .slice none 0 0, .slice none 0 0, .slice none 0 0] 26)).alloc (.cells #[.int .i64 k, .string ⟨#[]⟩, .int .i64 0, .bool false, .slice none 0 0, .slice none 0 0, .slice none 0 0] 26) = X := ⟨_, rfl⟩
  have hwX : Below w.heap.size w X := by rw [← hX]; exact ((Below.refl _ _).alloc (Nat.le_refl _) _).alloc (by simp) _
  have hzX : X.heap.size = w.heap.size + 2 := by rw [← hX]; simp
  have HB1 : Hid (Blk X w.heap.size 26 #[.int .i64 0, .string ⟨#[]⟩, .int .i64 0, .bool false, .slice none 0 0, .slice none 0 0, .slice none 0 0]) := by rw [← hX]; exact (Blk.new w _ _).alloc _
  have HB2 : Hid (Blk X (w.heap.size + 1) 26 #[.int .i64 k, .string ⟨#[]⟩, .int .i64 0, .bool false, .slice none 0 0, .slice none 0 0, .slice none 0 0]) := by rw [← hX]; simpa [Hid] using Blk.new (w.alloc _) _ _
  have HWX := Lib.hid hwX
  have HXX := Lib.hid hX
  clear hwX hX
  go_wp2_with (at_builtin; (refine wpList_append_row _ rfl _ _ 24 rfl (w.heap.size + 2) 26 i0 _ 7 112 Try.underlying24 hi iz0 iz1 iz2 rfl (by omega) (.slice none 0 0) 0 [] rfl ?c1 S (.slice A ks.length cap) ks.length xs rfl ?c2 HONE.out ?c4 ?c5 ?c6 ?_))
  case c1 => exact World.ownsRow_nil _ _ _ _
  case c2 =>
    have h2 := HX1.out.keep (SameOn.of_below HWX.out HS.out)
    rw [← HXX.out] at h2
    exact h2
  case c4 => unfold maxLen; omega
  case c5 => omega
  case c6 => simp
  intro v' w2 hown hg hnil hat
  have hg : X.grownBy w2 none := by have e := HXX.out; subst e; exact hg
  have hown : w2.ownsRow (w.heap.size + 2) 26 7 v' ks.length xs := by simpa using hown
  obtain ⟨A4, c4, rfl⟩ := own_form hown
  have hb2 : Below X.heap.size X w2 := below_of_grown hg
  have hz2 := hb2.size
  have HBW : Hid (Below w.heap.size w w2) := HWX.out.trans (hb2.mono (by omega))
  obtain ⟨g0, g1, g2, g3, g4, g5, g6, gf⟩ := (HB1.out.below hb2 (by omega)).cells7
  obtain ⟨q0, q1, q2, q3, q4, q5, q6, qf⟩ := (HB2.out.below hb2 (by omega)).cells7
  have HR : Hid (RowT w2 (fun b => S b ∨ (w.heap.size + 2 ≤ b ∧ b < w2.heap.size)) (.slice A4 ks.length c4) ks) :=
    ⟨xs, Row.of_own hown (fun b hb => .inr (hown.lt b hb)), HX2.out.keep (SameOn.of_below HBW.out HS.out) (fun b hb => .inl hb)⟩
  have hl1 : w.heap.size < w2.heap.size := by omega
  have hl3 : w.heap.size + 1 < w2.heap.size := by omega
  have hnS : ∀ b, w.heap.size ≤ b → b < w.heap.size + 2 → ¬(S b ∨ (w.heap.size + 2 ≤ b ∧ b < w2.heap.size)) := by
    rintro b h1 h2 (h | h)
    · have := HS.out b h; omega
    · omega
  clear hown hg hnil hat hb2
  by_cases hk : k = 13
  · subst hk
    go_wp2_with fail
    refine bodyPost_ret (v := .agg #[.int .i64 13, .string ⟨#[]⟩, .int .i64 ks.length, .bool false, .slice none 0 0, .slice none 0 0, .slice A4 ks.length c4]) (by simp [results, Try.results19, go_sem, g0, g1, g2, g3, g4, g5, g6]) rfl ⟨_, rfl, ?_, ?_⟩
    · rw [show mkT 13 ks = .mk 13 ⟨#[]⟩ ks.length false [] [] ks from by simp [mkT]]
      refine mk_close HR.out ?_ (fun b hb => by rcases hb with hb | hb; exact .inl hb; exact .inr ⟨by omega, by simp; omega⟩)
      repeat (refine SameOn.set_ ?_ (by first | exact hnS w.heap.size (Nat.le_refl _) (by omega) | exact hnS (w.heap.size + 1) (by omega) (by omega)) _)
      exact SameOn.refl _ _
    · repeat (refine Below.setCell ?_ (by simp) _)
      exact HBW.out
  · have hkb : (k == 13) = false := by simpa using hk
    have HK := Lib.hid hk
    clear hk
    go_wp2_with fail
    refine bodyPost_ret (v := .agg #[.int .i64 k, .string ⟨#[]⟩, .int .i64 0, .bool false, .slice none 0 0, .slice none 0 0, .slice A4 ks.length c4]) (by simp [results, Try.results19, go_sem, g0, g1, g2, g3, g4, g5, g6]) rfl ⟨_, rfl, ?_, ?_⟩
    · rw [show mkT k ks = .mk k ⟨#[]⟩ 0 false [] [] ks from by rw [mkT, if_neg HK.out]]
      refine mk_close HR.out ?_ (fun b hb => by rcases hb with hb | hb; exact .inl hb; exact .inr ⟨by omega, by simp; omega⟩)
      repeat (refine SameOn.set_ ?_ (by first | exact hnS w.heap.size (Nat.le_refl _) (by omega) | exact hnS (w.heap.size + 1) (by omega) (by omega)) _)
      exact SameOn.refl _ _
    · repeat (refine Below.setCell ?_ (by simp) _)
      exact HBW.out
end Go.Proofs.Ytanhdklaponekaa
