/- types.own and types.owns: a type, a list of types, in memory of its own. -/
import Derived.Test.YtanhdklaponekaaApp
import Derived.Test.YtanhdklaponekaaClone
import Derived.Deep.RegionHeld3
import Derived.Deep.LoopGhost
import Derived.Deep.DrawnRows
import Derived.RegionCalls
import Derived.Deep.RegionWith
namespace Go.Proofs.Ytanhdklaponekaa
open Go Go.RowKit

/-- The new type: names, marks and kids each in a new row. -/
theorem own_close {B H0 E1 E2 E3 : Nat} {w1 w2 w3 W' : World} {k : Int} {nm : ByteArray} {n : Int} {f : Bool} {ns : List ByteArray} {ms : List Bool} {ks : List T} {v1 v2 v3 : Value} {x3 : List Value} (hz0 : B + 2 ≤ H0)
    (hz1 : H0 ≤ w1.heap.size) (ho1 : w1.ownsRow H0 E1 1 v1 ns.length (ns.map .string)) (hb2 : Below w1.heap.size w1 w2)
    (ho2 : w2.ownsRow w1.heap.size E2 1 v2 ms.length (ms.map .bool)) (hb3 : Below w2.heap.size w2 w3)
    (ho3 : w3.ownsRow w2.heap.size E3 7 v3 ks.length x3) (ht3 : TysR w3 (fun b => New w2 w3 b ∧ v3.ownBlock ≠ some b) ks x3)
    (hsm : SameOn (fun b => B + 2 ≤ b) w3 W') (hsz : w3.heap.size ≤ W'.heap.size) :
    TyR W' (fun b => B ≤ b ∧ b < W'.heap.size) (T.mk k nm n f ns ms ks) [.int .i64 k, .string nm, .int .i64 n, .bool f, v1, v2, v3] := by
  have hz2 := hb2.size
  have hz3 := hb3.size
  have l1 := ho1.lt
  have l2 := ho2.lt
  have l3 := ho3.lt
  have hS : ∀ b, (B + 2 ≤ b ∧ b < w3.heap.size) → (B ≤ b ∧ b < W'.heap.size) := fun b h => by omega
  have hsm' : SameOn (fun b => B + 2 ≤ b ∧ b < w3.heap.size) w3 W' := fun b hb => hsm b hb.1
  simp only [TyR]
  refine ⟨v1, v2, v3, x3, rfl, ?_, ?_, ?_, ?_⟩
  · exact ((Row.of_own (S := fun b => B + 2 ≤ b ∧ b < w3.heap.size) (own_below (own_below ho1 hb2) (hb3)) (fun b hb => by have := l1 b hb; omega)).keep hsm').more hS
  · exact ((Row.of_own (S := fun b => B + 2 ≤ b ∧ b < w3.heap.size) (own_below ho2 hb3) (fun b hb => by have := l2 b hb; omega)).keep hsm').more hS
  · exact ((Row.of_own (S := fun b => B + 2 ≤ b ∧ b < w3.heap.size) ho3 (fun b hb => by have := l3 b hb; omega)).keep hsm').more hS
  · exact ht3.keep (fun b hb => hsm b (by have := hb.1.1; omega)) (fun b hb => by have h1 := hb.1.1; have h2 := hb.1.2; exact ⟨by omega, by omega⟩)

attribute [local go_sem ↓] Go.wp_at_zero Go.wp_at_succ
set_option maxHeartbeats 4000000 in
theorem own_any (N : Nat) (ihs : ∀ (ts : List T) (v : Value) (w : World) (S : Nat → Prop), T.szL ts < N → T.okL ts → ts.length * 112 ≤ Lim → RowT w S v ts → Old S w → Calls Try.prog 39 #[v] w (TsRes 26 w ts)) :
    ∀ (t : T) (cs : List Value) (w : World) (S : Nat → Prop), t.sz < N + 1 → t.ok → TyR w S t cs → Old S w → Calls Try.prog 41 #[.agg cs.toArray] w (TRes w t) := by
  rintro ⟨k, nm, n, f, ns, ms, ks⟩ cs w S hN hok hr hS
  simp only [TyR] at hr
  obtain ⟨vn, vm, vk, xs, rfl, hns, hms, hk1, hk2⟩ := hr
  obtain ⟨An, capn, rfl, _⟩ := hns.form
  obtain ⟨Am, capm, rfl, _⟩ := hms.form
  obtain ⟨Ak, capk, rfl, _⟩ := hk1.form
  have HS := Lib.hid hS
  have HN := Lib.hid hns
  have HM := Lib.hid hms
  have HK : Hid (RowT w S (.slice Ak ks.length capk) ks) := ⟨xs, hk1, hk2⟩
  have HO := Lib.hid hok
  simp only [T.ok] at hok
  obtain ⟨-, -, -, -, ho1, ho2, ho3, ho4⟩ := hok
  have HO1 := Lib.hid ho1
  have HO2 := Lib.hid ho2
  have HO3 := Lib.hid ho3
  have HO4 := Lib.hid ho4
  clear ho1 ho2 ho3 ho4
  have IH := Lib.hid ihs
  have HSZ := Lib.hid hN
  clear hns hms hk1 hk2 hS ihs hN
  go_enter Try.func41, Try.ntmps41
  go_wp2_with fail
  refine (fun H : (∀ W, (Below w.heap.size w W ∧ w.heap.size + 2 ≤ W.heap.size ∧ Blk W w.heap.size 26 #[.int .i64 k, .string nm, .int .i64 n, .bool f, .slice An ns.length capn, .slice Am ms.length capm, .slice Ak ks.length capk] ∧
      Blk W (w.heap.size + 1) 26 #[.int .i64 0, .string ⟨#[]⟩, .int .i64 0, .bool false, .slice none 0 0, .slice none 0 0, .slice none 0 0]) → Code.wp _ _ _ _ W) => H _ ?_) ?_
  · exact ⟨((Below.refl _ _).alloc (Nat.le_refl _) _).alloc (by simp) _, by simp, (Blk.new _ _ _).alloc _, by simpa using Blk.new (w.alloc _) _ _⟩
  rintro W ⟨hbW, hzW, hB1, hB2⟩
  obtain ⟨g0, g1, g2, g3, g4, g5, g6, gf⟩ := hB1.cells7
  have HB1 := Lib.hid hB1
  have HB2 := Lib.hid hB2
  clear hB1 hB2
  go_region_with
    (first
      | (go_at_call 42
         refine (clone_strs _ S _ _ _ (HN.out.keep (SameOn.of_below hbW.drew HS.out)) (HS.out.below hbW.drew) (one_strs _) HO1.out).mono ?_
         rintro e w1 ⟨v1, rfl, ho1, -, hb1⟩
         obtain ⟨A1, c1, rfl⟩ := own_form ho1
         have hz1 := hb1.size
         have hbW1 : Below w.heap.size w w1 := hbW.drew.trans (hb1.mono (by simp; omega))
         have g4' := (cell_below hb1 (b := w.heap.size) (o := 4) (by simp; omega)).trans g4
         have g5' := (cell_below hb1 (b := w.heap.size) (o := 5) (by simp; omega)).trans g5
         have g6' := (cell_below hb1 (b := w.heap.size) (o := 6) (by simp; omega)).trans g6
         have hlt1 : w.heap.size + 2 ≤ w1.heap.size := by simp at hz1; omega)
      | (go_at_call 43
         refine (clone_bools _ S _ _ _ (HM.out.keep (SameOn.of_below hbW1 HS.out)) (HS.out.below hbW1) (one_bools _) (by rw [Nat.mul_one]; exact HO2.out)).mono ?_
         rintro e w2 ⟨v2, rfl, ho2, -, hb2⟩
         obtain ⟨A2, c2, rfl⟩ := own_form ho2
         have hz2 := hb2.size
         have hbW2 : Below w.heap.size w w2 := hbW1.trans (hb2.mono (by omega))
         have k4' := (cell_below hb2 (b := w.heap.size) (o := 4) (by omega)).trans g4'
         have k5' := (cell_below hb2 (b := w.heap.size) (o := 5) (by omega)).trans g5'
         have k6' := (cell_below hb2 (b := w.heap.size) (o := 6) (by omega)).trans g6')
      | (go_at_call 39
         refine (IH.out ks _ _ S (by have := HSZ.out; rw [sz_mk] at this; omega) HO4.out HO3.out (HK.out.keep (SameOn.of_below hbW2 HS.out) (fun _ h => h)) (HS.out.below hbW2)).mono ?_
         rintro e w3 ⟨v3, x3, rfl, ho3, ht3, hb3⟩
         obtain ⟨A3, c3, rfl⟩ := own_form ho3
         have hz3 := hb3.size
         have hbW3 : Below w.heap.size w w3 := hbW2.trans (hb3.mono (by omega))
         have HC1 := Lib.hid (((HB1.out.drew.below hb1 (by simp; omega)).below hb2 (by omega)).below hb3 (by omega))
         have HC2 := Lib.hid (((HB2.out.drew.below hb1 (by simp; omega)).below hb2 (by omega)).below hb3 (by omega))
         obtain ⟨m0, m1, m2, m3, m4, m5, m6, mf⟩ := HC1.out.cells7
         obtain ⟨n0, n1, n2, n3, n4, n5, n6, nf⟩ := HC2.out.cells7))
  all_goals
    go_wp2_with fail
    refine bodyPost_ret (v := .agg #[.int .i64 k, .string nm, .int .i64 n, .bool f, .slice A1 ns.length c1, .slice A2 ms.length c2, .slice A3 ks.length c3]) (by simp [results, Try.results41, go_sem, n0, n1, n2, n3, n4, n5, n6]) rfl ⟨_, rfl, ?_, ?_⟩
    · refine own_close (H0 := W.drew.heap.size) (by simpa using hzW) hz1 ho1 hb2 ho2 hb3 ho3 ht3 ?_ (by simp)
      repeat (refine SameOn.set_ ?_ (by simp) _)
      exact SameOn.refl _ _
    · repeat (refine Below.setCell ?_ (by simp) _)
      exact hbW3
end Go.Proofs.Ytanhdklaponekaa
