/- Edits as data; their order: cmp.Compare, cmp.Or, spans.order. -/
import Derived.Test.YtnonbonegbdfpaaDoorCloneSp
import Derived.Laws.Cover1
import Derived.Deep.LoopGhost
import Derived.Sort.LotA
namespace Go.Proofs.YtnonbonegbdfpaaDoor
open Go Go.RowKit

/-- Go's api.Edit as data -/
structure Ed where
  p : ByteArray
  fr : Int
  to : Int
  tx : ByteArray

def Ed.cs (e : Ed) : List Value := [.string e.p, .int .i64 e.fr, .int .i64 e.to, .string e.tx]
def cmpS (x y : ByteArray) : Int := if Op.bytesLess x.toList y.toList = true then -1 else if (x.toList == y.toList) = true then 0 else 1
def cmpI (x y : Int) : Int := if x < y then -1 else if y < x then 1 else 0
def ordE (x y : Ed) : Int := if cmpS x.p y.p ≠ 0 then cmpS x.p y.p else if cmpI x.fr y.fr ≠ 0 then cmpI x.fr y.fr else if cmpI x.to y.to ≠ 0 then cmpI x.to y.to else cmpS x.tx y.tx

theorem isNaN_s {x : ByteArray} {w : World} : Calls Tryd.prog 70 #[.string x] w fun e w' => e = .returned (.bool false) ∧ w' = w := by
  go_enter Tryd.func70, Tryd.ntmps70
  go_wp2_with fail
  go_ret
  exact ⟨by simp, rfl⟩
theorem isNaN_i {x : Int} {w : World} : Calls Tryd.prog 71 #[.int .i64 x] w fun e w' => e = .returned (.bool false) ∧ w' = w := by
  go_enter Tryd.func71, Tryd.ntmps71
  go_wp2_with fail
  go_ret
  exact ⟨by simp, rfl⟩
set_option maxHeartbeats 1000000 in
theorem compare_s {x y : ByteArray} {w : World} : Calls Tryd.prog 51 #[.string x, .string y] w fun e w' => e = .returned (.int .i64 (cmpS x y)) ∧ w' = w := by
  obtain ⟨r, hr⟩ : ∃ r, cmpS x y = r := ⟨_, rfl⟩
  cases h1 : Op.bytesLess x.toList y.toList with
  | true =>
    have HF : Hid (cmpS x y = -1) := by unfold Hid cmpS; rw [if_pos h1]
    clear hr
    go_enter Tryd.func51, Tryd.ntmps51
    go_wp2_with (go_at_call 70; refine isNaN_s.mono ?_; rintro e w' ⟨rfl, rfl⟩)
    go_ret
    exact ⟨by rw [HF.out]; rfl, rfl⟩
  | false =>
    cases h2 : (x.toList == y.toList) with
    | true =>
      have HF : Hid (cmpS x y = 0) := by unfold Hid cmpS; rw [h1, h2]; rfl
      clear hr
      go_enter Tryd.func51, Tryd.ntmps51
      go_wp2_with (go_at_call 70; refine isNaN_s.mono ?_; rintro e w' ⟨rfl, rfl⟩)
      go_ret
      exact ⟨by rw [HF.out]; rfl, rfl⟩
    | false =>
      have HF : Hid (cmpS x y = 1) := by unfold Hid cmpS; rw [h1, h2]; rfl
      clear hr
      go_enter Tryd.func51, Tryd.ntmps51
      go_wp2_with (go_at_call 70; refine isNaN_s.mono ?_; rintro e w' ⟨rfl, rfl⟩)
      go_ret
      exact ⟨by rw [HF.out]; rfl, rfl⟩
set_option maxHeartbeats 1000000 in
theorem compare_i {x y : Int} {w : World} : Calls Tryd.prog 52 #[.int .i64 x, .int .i64 y] w fun e w' => e = .returned (.int .i64 (cmpI x y)) ∧ w' = w := by
  by_cases h1 : x < y
  · have HF : Hid (cmpI x y = -1) := by unfold Hid cmpI; rw [if_pos h1]
    go_enter Tryd.func52, Tryd.ntmps52
    go_wp2_with (go_at_call 71; refine isNaN_i.mono ?_; rintro e w' ⟨rfl, rfl⟩)
    go_ret
    exact ⟨by rw [HF.out]; rfl, rfl⟩
  · by_cases h2 : y < x
    · have HF : Hid (cmpI x y = 1) := by unfold Hid cmpI; rw [if_neg h1, if_pos h2]
      go_enter Tryd.func52, Tryd.ntmps52
      go_wp2_with (go_at_call 71; refine isNaN_i.mono ?_; rintro e w' ⟨rfl, rfl⟩)
      go_ret
      exact ⟨by rw [HF.out]; rfl, rfl⟩
    · have HF : Hid (cmpI x y = 0) := by unfold Hid cmpI; rw [if_neg h1, if_neg h2]
      go_enter Tryd.func52, Tryd.ntmps52
      go_wp2_with (go_at_call 71; refine isNaN_i.mono ?_; rintro e w' ⟨rfl, rfl⟩)
      go_ret
      exact ⟨by rw [HF.out]; rfl, rfl⟩

/-- cmp.Or of four -/
def orI (p q r s : Int) : Int := if p ≠ 0 then p else if q ≠ 0 then q else if r ≠ 0 then r else s
set_option maxHeartbeats 1000000 in
theorem or_calls {p q r s : Int} {w : World} {g : Nat} (hb : w.heap[g]? = some (.cells #[.int .i64 p, .int .i64 q, .int .i64 r, .int .i64 s] 3 (0, 0))) :
    Calls Tryd.prog 50 #[.slice (some ⟨g, 0, none⟩) 4 4] w fun e w' => e = .returned (.int .i64 (orI p q r s)) ∧ w' = w := by
  have hB : Blk w g 3 #[.int .i64 p, .int .i64 q, .int .i64 r, .int .i64 s] := hb
  have k0 : w.cell? ⟨g, 0, none⟩ = some (.int .i64 p) := hB.cell 0
  have k1 : w.cell? ⟨g, 1, none⟩ = some (.int .i64 q) := hB.cell 1
  have k2 : w.cell? ⟨g, 2, none⟩ = some (.int .i64 r) := hB.cell 2
  have k3 : w.cell? ⟨g, 3, none⟩ = some (.int .i64 s) := hB.cell 3
  clear hb hB
  go_enter Tryd.func50, Tryd.ntmps50
  go_wp2_with fail
  go_loopg [5, 8] 4 (fun d _ i wr => wr = w ∧ ((d = 4 ∧ i = .int .i64 0) ∨ (d = 3 ∧ i = .int .i64 1 ∧ p = 0) ∨ (d = 2 ∧ i = .int .i64 2 ∧ p = 0 ∧ q = 0) ∨ (d = 1 ∧ i = .int .i64 3 ∧ p = 0 ∧ q = 0 ∧ r = 0) ∨ (d = 0 ∧ i = .int .i64 4 ∧ p = 0 ∧ q = 0 ∧ r = 0 ∧ s = 0)))
  case atStart => exact ⟨rfl, .inl ⟨rfl, rfl⟩⟩
  case round =>
    obtain ⟨rfl, h⟩ := hrel
    rcases h with ⟨rfl, rfl⟩ | ⟨rfl, rfl, hp⟩ | ⟨rfl, rfl, hp, hq⟩ | ⟨rfl, rfl, hp, hq, hr⟩ | ⟨rfl, rfl, hp, hq, hr, hs⟩
    · by_cases h0 : p = 0
      · have HH := Lib.hid h0
        have hb : (p != 0) = false := by simpa using h0
        clear h0
        go_wp2_with fail
        go_roundg 3
        case measure => omega
        case rel => exact ⟨rfl, .inr (.inl ⟨rfl, rfl, HH.out⟩)⟩
      · have HF : Hid (orI p q r s = p) := by unfold Hid orI; rw [if_pos h0]
        have hb : (p != 0) = true := by simpa using h0
        clear h0
        go_wp2_with fail
        go_ret
        exact ⟨by rw [HF.out]; rfl, rfl⟩
    · by_cases h0 : q = 0
      · have HH := Lib.hid h0
        have HP := Lib.hid hp
        have hb : (q != 0) = false := by simpa using h0
        clear h0 hp
        go_wp2_with fail
        go_roundg 2
        case measure => omega
        case rel => exact ⟨rfl, .inr (.inr (.inl ⟨rfl, rfl, HP.out, HH.out⟩))⟩
      · have HF : Hid (orI p q r s = q) := by unfold Hid orI; rw [if_neg (by omega), if_pos h0]
        have hb : (q != 0) = true := by simpa using h0
        clear h0 hp
        go_wp2_with fail
        go_ret
        exact ⟨by rw [HF.out]; rfl, rfl⟩
    · by_cases h0 : r = 0
      · have HH := Lib.hid h0
        have HP := Lib.hid hp
        have HQ := Lib.hid hq
        have hb : (r != 0) = false := by simpa using h0
        clear h0 hp hq
        go_wp2_with fail
        go_roundg 1
        case measure => omega
        case rel => exact ⟨rfl, .inr (.inr (.inr (.inl ⟨rfl, rfl, HP.out, HQ.out, HH.out⟩)))⟩
      · have HF : Hid (orI p q r s = r) := by unfold Hid orI; rw [if_neg (by omega), if_neg (by omega), if_pos h0]
        have hb : (r != 0) = true := by simpa using h0
        clear h0 hp hq
        go_wp2_with fail
        go_ret
        exact ⟨by rw [HF.out]; rfl, rfl⟩
    · by_cases h0 : s = 0
      · have HH := Lib.hid h0
        have HP := Lib.hid hp
        have HQ := Lib.hid hq
        have HR := Lib.hid hr
        have hb : (s != 0) = false := by simpa using h0
        clear h0 hp hq hr
        go_wp2_with fail
        go_roundg 0
        case measure => omega
        case rel => exact ⟨rfl, .inr (.inr (.inr (.inr ⟨rfl, rfl, HP.out, HQ.out, HR.out, HH.out⟩)))⟩
      · have HF : Hid (orI p q r s = s) := by unfold Hid orI; rw [if_neg (by omega), if_neg (by omega), if_neg (by omega)]
        have hb : (s != 0) = true := by simpa using h0
        clear h0 hp hq hr
        go_wp2_with fail
        go_ret
        exact ⟨by rw [HF.out]; rfl, rfl⟩
    · have HF : Hid (orI p q r s = 0) := by unfold Hid orI; rw [if_neg (by omega), if_neg (by omega), if_neg (by omega)]; exact hs
      clear hp hq hr hs
      go_wp2_with fail
      go_ret
      exact ⟨by rw [HF.out]; rfl, rfl⟩
theorem ordE_or (x y : Ed) : ordE x y = orI (cmpS x.p y.p) (cmpI x.fr y.fr) (cmpI x.to y.to) (cmpS x.tx y.tx) := rfl
end Go.Proofs.YtnonbonegbdfpaaDoor
