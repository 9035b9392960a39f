/- recastlaw8.TypesMake: the walk: true. -/
import Derived.Test.YtanhdklaponekaaAwake8
import Derived.Test.YtanhdklaponekaaIn
import Derived.Test.YtanhdklaponekaaAlike
namespace Go.Proofs.Ytanhdklaponekaa
open Go Go.RowKit

theorem chain {w x y : World} (h : Hid (Below w.heap.size w x)) (hb : Below x.heap.size x y) : Hid (Below w.heap.size w y) := h.out.trans (hb.mono h.out.size)

/-- Writing into l leaves t as it is. -/
structure TM (w W wr : World) (k : Int) (ks : List T) (lv : Value) (g : Nat) (A : Option Addr) (c : Nat) (xs : List Value) : Prop where
  b : Below w.heap.size w wr
  s : wr.heap.size = W.heap.size
  own : wr.ownsRow w.heap.size 26 7 lv ks.length xs
  t : Blk wr g 26 #[.int .i64 k, .string ⟨#[]⟩, .int .i64 (nT k ks.length), .bool false, .slice none 0 0, .slice none 0 0, .slice A ks.length c]
  n : lv.ownBlock ≠ some g
  ty : TyR wr (fun b => (w.heap.size ≤ b ∧ b < wr.heap.size) ∧ lv.ownBlock ≠ some b) (mkT k ks) [.int .i64 k, .string ⟨#[]⟩, .int .i64 (nT k ks.length), .bool false, .slice none 0 0, .slice none 0 0, .slice A ks.length c]

theorem TM.set_ {w W wr : World} {k : Int} {ks : List T} {q cap g : Nat} {A : Option Addr} {c : Nat} {xs : List Value} (h : TM w W wr k ks (.slice (some ⟨q, 0, none⟩) ks.length cap) g A c xs) (i : Nat) (u : Value) :
    TM w W (wr.setCell ⟨q, i, none⟩ u) k ks (.slice (some ⟨q, 0, none⟩) ks.length cap) g A c (xs.set i u) := by
  have hl := h.own.lt q rfl
  have hn : g ≠ q := fun e => h.n (by rw [e]; rfl)
  refine ⟨h.b.setCell hl.1 _, by simpa using h.s, (h.own.stored i u).1, h.t.far hn u, h.n, h.ty.keep ?_ (fun b hb => by simpa using hb)⟩
  exact (SameOn.refl _ _).set_ (fun h => h.2 rfl) _

set_option maxHeartbeats 4000000 in
set_option maxRecDepth 100000 in
attribute [local go_sem ↓] Go.wp_at_zero Go.wp_at_succ in
theorem typesMake_walk {k : Int} {ks : List T} {v : Value} {nm : ByteArray} {w : World} {S : Nat → Prop} (hok : T.okL ks) (hl : ks.length * 112 ≤ Lim) (h : RowT w S v ks) (hS : Old S w) :
    Calls Try.prog 4 #[.int .i64 k, v, .string nm] w fun e w' => e = .returned (.bool true) ∧ Below w.heap.size w w' := by
  obtain ⟨i0, hi, iz0, iz1, iz2⟩ := info_parts info_types
  obtain ⟨A, cap, rfl, hlen⟩ := h.form
  have H := Lib.hid h
  have HS := Lib.hid hS
  have HO := Lib.hid hok
  have HL := Lib.hid hl
  have HL2 := Lib.hid hl
  have hl2 : ks.length ≤ 1256584717458 := by unfold Lim at hl; omega
  clear h hS hok hl
  go_enter Try.func4, Try.ntmps4
  by_cases h8 : 8 < ks.length
  · go_wp2_with fail
    refine (awake8 _).mono ?_
    rintro e w1 ⟨rfl, hb1⟩
    have HB := Lib.hid hb1
    clear hb1
    go_wp2_with fail
    go_ret
    exact ⟨rfl, HB.out⟩
  go_wp2_with fail
  refine (in_calls (ts := ks) H.out HS.out).mono ?_
  rintro e w1 ⟨r, rfl, -, hb1⟩
  have HW1 := Lib.hid hb1
  have hz1 := hb1.size
  clear hb1
  cases r with
  | false =>
    go_wp2_with fail
    refine (awake8 _).mono ?_
    rintro e w2 ⟨rfl, hb2⟩
    have HB := chain HW1 hb2
    clear hb2
    go_wp2_with fail
    go_ret
    exact ⟨rfl, HB.out⟩
  | true =>
    obtain ⟨xs, hx1, hx2⟩ := H.out.keep (SameOn.of_below HW1.out HS.out) (fun _ h => h)
    have HX1 := Lib.hid hx1
    have HX2 := Lib.hid hx2
    have HONE : Hid (∀ u ∈ xs, u.oneCell' = true) := tysR_one hx2
    clear hx1 hx2
    go_wp2_with (at_builtin; (refine wpList_append_row _ rfl _ _ 24 rfl w.heap.size 26 i0 _ 7 112 Try.underlying24 hi iz0 iz1 iz2 rfl (by omega) (.slice none 0 0) 0 [] rfl ?c1 S (.slice A ks.length cap) ks.length xs rfl HX1.out HONE.out ?c4 ?c5 hz1 ?_))
    case c1 => exact World.ownsRow_nil _ _ _ _
    case c4 => unfold maxLen; omega
    case c5 => omega
    intro lv w2 hown hg hnil hat
    have hown : w2.ownsRow w.heap.size 26 7 lv ks.length xs := by simpa using hown
    obtain ⟨A4, c4, rfl⟩ := own_form hown
    have hb2 : Below w1.heap.size w1 w2 := below_of_grown hg
    have HW2 := chain HW1 hb2
    have hz2 := HW2.out.size
    have hrow : RowT w2 (fun b => S b ∨ (w.heap.size ≤ b ∧ b < w2.heap.size)) (.slice A4 ks.length c4) ks :=
      ⟨xs, Row.of_own hown (fun b hb => .inr (hown.lt b hb)), HX2.out.keep (SameOn.of_below hb2 (HS.out.below HW1.out)) (fun b hb => .inl hb)⟩
    have HROW := Lib.hid hrow
    have HOWN := Lib.hid hown
    clear hown hg hnil hat hb2 hrow
    go_wp2_with fail
    refine (make_own (k := k) (ks := ks) (S := fun b => S b ∨ (w.heap.size ≤ b ∧ b < w2.heap.size)) HO.out HL.out HROW.out (fun b hb => by rcases hb with hb | hb; exact HS.out.below HW2.out b hb; exact hb.2)).mono ?_
    rintro e w3 ⟨u, ys, rfl, ho3, ht3, hb3⟩
    obtain ⟨A5, c5, rfl⟩ := own_form ho3
    have hz3 := hb3.size
    have HW3 := chain HW2 hb3
    have HTY : Hid (TyR w3 (New w2 w3) (mkT k ks) [.int .i64 k, .string ⟨#[]⟩, .int .i64 (nT k ks.length), .bool false, .slice none 0 0, .slice none 0 0, .slice A5 ks.length c5]) :=
      mk_close (S1 := New w2 w3) (tysR_row ho3 (ht3.keep (SameOn.refl _ _) (fun b hb => hb.1)) (fun b hb => ho3.lt b hb)) (SameOn.refl _ _) (fun _ h => h)
    have HOWN3 := Lib.hid (own_below HOWN.out hb3)
    clear ho3 ht3 hb3
    have hTM : TM w (w3.alloc (.cells #[.int .i64 k, .string ⟨#[]⟩, .int .i64 (nT k ks.length), .bool false, .slice none 0 0, .slice none 0 0, .slice A5 ks.length c5] 26)) (w3.alloc (.cells #[.int .i64 k, .string ⟨#[]⟩, .int .i64 (nT k ks.length), .bool false, .slice none 0 0, .slice none 0 0, .slice A5 ks.length c5] 26)) k ks (.slice A4 ks.length c4) w3.heap.size A5 c5 xs :=
      ⟨HW3.out.alloc HW3.out.size _, rfl, HOWN3.out.alloc _, Blk.new _ _ _, fun e => by have := (HOWN3.out.lt _ e).2; omega,
        HTY.out.keep ((SameOn.refl _ _).alloc (fun b hb => hb.2) _) (fun b hb => ⟨⟨by have := hb.1; omega, by have := hb.2; simp; omega⟩, fun e => by have := (HOWN.out.lt _ e).2; have := hb.1; omega⟩)⟩
    have HTM := Lib.hid hTM
    clear hTM
    go_wp2_with fail
    go_loopg [9] ks.length (fun d i wr => ∃ (j : Nat) (xs : List Value), d = ks.length - j ∧ j ≤ ks.length ∧ i = .int .i64 j ∧ Hid (TM w (w3.alloc (.cells #[.int .i64 k, .string ⟨#[]⟩, .int .i64 (nT k ks.length), .bool false, .slice none 0 0, .slice none 0 0, .slice A5 ks.length c5] 26)) wr k ks (.slice A4 ks.length c4) w3.heap.size A5 c5 xs))
    case atStart => exact ⟨0, xs, by simp, by omega, rfl, HTM⟩
    case round =>
      obtain ⟨j, xs', rfl, hj, rfl, HL⟩ := hrel
      clear HTM HROW HOWN HOWN3 HX1 HX2 HONE
      have hbr := HL.out.b.size
      have hsr := HL.out.s
      simp at hsr
      by_cases hlt : j < ks.length
      · obtain ⟨q, cap', hv, _⟩ := HL.out.own.form (by omega)
        cases hv
        have hq := HL.out.own.lt q rfl
        have hql := hq.2
        have hxl := HL.out.own.1
        have hc1 : wr.cell? ⟨q, j * 7 + 1, none⟩ = some (xs'[j * 7 + 1]'(by omega)) := by rw [HL.out.own.cellAt (j * 7 + 1) (by omega), List.getElem?_eq_getElem (by omega)]
        have hf1 := HL.out.own.frozenAt (j * 7 + 1)
        have HNX := Lib.hid (HL.out.set_ (j * 7 + 1) (.string ⟨#[63]⟩))
        go_wp2_with fail
        go_roundg (ks.length - (j + 1))
        case measure => omega
        case rel => exact ⟨j + 1, _, rfl, by omega, by go_num, HNX⟩
      · obtain rfl : j = ks.length := by omega
        have hgl : w3.heap.size < wr.heap.size := by omega
        have HCW : Hid (Below w.heap.size w wr.drew) := HL.out.b.drew
        obtain ⟨g0, g1, g2, g3, g4, g5, g6, gf⟩ := HL.out.t.cells7
        have HTT := Lib.hid HL.out.ty
        have HTK := Lib.hid HL.out.t
        have HOS := Lib.hid (HS.out.below HL.out.b)
        have HRW := Lib.hid (H.out.keep (SameOn.of_below HCW.out HS.out) (fun _ h => h))
        have HOL := Lib.hid HL.out.own.lt
        clear HL hlt hj
        go_wp2_with fail
        go_region_with
          (first
            | (go_at_call 19
               refine (rmake_calls (ks := ks) (S := S) HL2.out HRW.out HOS.out).mono ?_
               rintro e w5 ⟨cs, rfl, htr, hb5⟩
               obtain ⟨M1, m1, M2, m2, M3, m3, rfl, -⟩ := htr.forms
               have HTR := Lib.hid htr
               have HC5 := chain HCW hb5
               have HY5 : Hid (Below wr.heap.size wr w5) := (Below.refl wr.heap.size wr).drew.trans hb5
               have hz5 := hb5.size
               simp at hz5
               have hl5 : w3.heap.size < w5.heap.size := by omega
               obtain ⟨k0, k1, k2, k3, k4, k5, k6, kf⟩ := (HTK.out.below HY5.out hgl).cells7
               clear htr hb5)
            | (go_at_call_of 18 (Value.int IntKind.i64 8)
               refine (alike_calls (t := nameT nm) (S := fun _ => False) (S' := fun _ => False) (name_R _ _ _) (name_R _ _ _) (fun _ h => h.elim) (fun _ h => h.elim)).mono ?_
               rintro e w8 ⟨rfl, hb8⟩
               have HC8 := chain (by assumption) hb8
               clear hb8)
            | (go_at_call 18
               refine (alike_calls (t := mkT k ks) (S := fun b => (w.heap.size ≤ b ∧ b < wr.heap.size) ∧ (Value.slice A4 ks.length c4).ownBlock ≠ some b) (S' := fun b => S b ∨ New wr.drew w5 b) (HTT.out.keep (SameOn.of_below HY5.out (fun b hb => hb.1.2)) (fun _ h => h)) HTR.out (fun b hb => by have := hb.1.2; omega) (fun b hb => by rcases hb with hb | hb; exact (HOS.out.below HY5.out) b hb; exact hb.2)).mono ?_
               rintro e w6 ⟨rfl, hb6⟩
               have HC6 := chain HC5 hb6
               clear hb6)
            | (go_at_call 20
               refine name_cells.mono ?_
               rintro e w7 ⟨rfl, hb7⟩
               have HC7 := chain (by assumption) hb7
               clear hb7)
            | (go_at_call 21
               refine rname_cells.mono ?_
               rintro e w9 ⟨rfl, hb9⟩
               have HC9 := chain (by assumption) hb9
               clear hb9)
            | (go_at_call 17
               refine (awake8 _).mono ?_
               rintro e w10 ⟨rfl, hb10⟩
               have HC10 := chain (by assumption) hb10
               clear hb10)
            | fail)
        all_goals
          go_wp2_with fail
          go_ret
          exact ⟨rfl, HC10.out⟩
end Go.Proofs.Ytanhdklaponekaa
