/- recastlaw8.in: where it says true, types are few and shaped. -/
import Derived.Test.YtanhdklaponekaaShp
import Derived.Test.YtanhdklaponekaaSize
namespace Go.Proofs.Ytanhdklaponekaa
open Go Go.RowKit

def InRes (ts : List T) (w : World) (e : Ending) (w' : World) : Prop := ∃ r, e = .returned (.bool r) ∧ (r = true → ∀ t ∈ ts, tsize t 120 ≤ 120 ∧ ShT t) ∧ Below w.heap.size w w'

set_option maxHeartbeats 2000000 in
theorem in_calls {ts : List T} {v : Value} {w : World} {S : Nat → Prop} (h : RowT w S v ts) (hS : Old S w) : Calls Try.prog 16 #[v] w (InRes ts w) := by
  have hlen := ks_max h
  obtain ⟨A, cap, rfl, -⟩ := h.form
  have HS := Lib.hid hS
  have HK := Lib.hid h
  clear h hS
  go_enter Try.func16, Try.ntmps16
  go_wp2_with fail
  go_loopg [3] ts.length (fun d i wr => ∃ (j : Nat), d = ts.length - j ∧ j ≤ ts.length ∧ i = .int .i64 j ∧ Hid (∀ k (h : k < ts.length), k < j → tsize ts[k] 120 ≤ 120 ∧ ShT ts[k]) ∧ Hid (Below w.heap.size w wr))
  case atStart => exact ⟨0, by simp, by omega, rfl, (fun k h h' => absurd h' (by omega)), Below.refl _ _⟩
  case round =>
    obtain ⟨j, rfl, hj, rfl, HSH, HBL⟩ := hrel
    have HSX : Hid (SameOn S w wr) := SameOn.of_below HBL.out HS.out
    have hzr := HBL.out.size
    have HSR : Hid (Old S wr) := HS.out.below HBL.out
    by_cases hlt : j < ts.length
    · have hr := HK.out.keep HSX.out (fun _ h => h)
      obtain ⟨b, o, c, B1, d1, B2, d2, B3, d3, hv, hSb, ⟨g0, g1, g2, g3, g4, g5, g6⟩, hkr⟩ := hr.at_ hlt
      cases hv
      have HKR := Lib.hid hkr
      have hbb := HSR.out b hSb
      clear hkr hr
      go_wp2_with fail
      refine (typeSize_calls (t := ts[j]) (most := 120) (cs := [.int .i64 ts[j].kd, .string ts[j].nm, .int .i64 ts[j].n, .bool ts[j].fl, .slice B1 ts[j].ns.length d1, .slice B2 ts[j].ms.length d2, .slice B3 ts[j].ks.length d3]) (S := S) HKR.out HSR.out (by omega) (by omega)).mono ?_
      rintro e w1 ⟨rfl, hb1⟩
      have hz1 := hb1.size
      have HSY : Hid (SameOn S wr w1) := SameOn.of_below hb1 HSR.out
      have HB1 : Hid (Below w.heap.size w w1) := HBL.out.trans (hb1.mono (by omega))
      have HS1 : Hid (Old S w1) := HS.out.below HB1.out
      obtain ⟨y0, y1, y2, y3, y4, y5, y6⟩ : Cells7 w1 b (o + j * 7) _ _ _ _ _ _ _ := ⟨(HSY.out.cell hSb _).trans g0, (HSY.out.cell hSb _).trans g1, (HSY.out.cell hSb _).trans g2, (HSY.out.cell hSb _).trans g3, (HSY.out.cell hSb _).trans g4, (HSY.out.cell hSb _).trans g5, (HSY.out.cell hSb _).trans g6⟩
      have hbb1 := HS1.out b hSb
      clear hb1 g0 g1 g2 g3 g4 g5 g6
      obtain ⟨sz, hsz⟩ : ∃ s, tsize ts[j] 120 = s := ⟨_, rfl⟩
      have HSZ := Lib.hid hsz
      rw [hsz]
      clear hsz
      by_cases hgt : 120 < sz
      · go_wp2_with fail
        go_ret
        exact ⟨false, rfl, (fun h => by cases h), HB1.out⟩
      go_wp2_with fail
      refine (shaped_calls (t := ts[j]) (cs := [.int .i64 ts[j].kd, .string ts[j].nm, .int .i64 ts[j].n, .bool ts[j].fl, .slice B1 ts[j].ns.length d1, .slice B2 ts[j].ms.length d2, .slice B3 ts[j].ks.length d3]) (S := S) (HKR.out.keep HSY.out (fun _ h => h)) HS1.out).mono ?_
      rintro e w2 ⟨r, rfl, hr2, hb2⟩
      have HB2 : Hid (Below w.heap.size w w2) := HB1.out.trans (hb2.mono (by omega))
      have HR := Lib.hid hr2
      clear hb2 hr2 y0 y1 y2 y3 y4 y5 y6
      cases r with
      | false =>
        go_wp2_with fail
        go_ret
        exact ⟨false, rfl, (fun h => by cases h), HB2.out⟩
      | true =>
        have HSN : Hid (∀ k (h : k < ts.length), k < j + 1 → tsize ts[k] 120 ≤ 120 ∧ ShT ts[k]) := fun k h h' => by
          by_cases e : k < j
          · exact HSH.out k h e
          · obtain rfl : k = j := by omega
            exact ⟨by rw [HSZ.out]; omega, HR.out rfl⟩
        clear HSH HR
        go_wp2_with fail
        go_roundg (ts.length - (j + 1))
        case measure => omega
        case rel => exact ⟨j + 1, rfl, by omega, by go_num, HSN, HB2⟩
    · obtain rfl : j = ts.length := by omega
      have HFIN : Hid (∀ t ∈ ts, tsize t 120 ≤ 120 ∧ ShT t) := fun x hx => by
        obtain ⟨k, hk, rfl⟩ := List.getElem_of_mem hx
        exact HSH.out k hk hk
      clear HSH
      go_wp2_with fail
      go_ret
      exact ⟨true, rfl, (fun _ => HFIN.out), HBL.out⟩
end Go.Proofs.Ytanhdklaponekaa
