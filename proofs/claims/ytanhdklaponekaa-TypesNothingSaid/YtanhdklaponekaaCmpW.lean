/- types.World.Comparable of a world that is none: the walk. -/
import Derived.Test.YtanhdklaponekaaCmp
import Derived.Test.YtanhdklaponekaaUnion
namespace Go.Proofs.Ytanhdklaponekaa
open Go Go.RowKit

set_option maxHeartbeats 4000000 in
set_option maxRecDepth 100000 in
theorem cmp_1 {f : T → Bool} {t : T} (e : t.kd = 1) : CmpAt (cmpB f) t := by
  intro cs w S h hS
  obtain ⟨A1, c1, A2, c2, A3, c3, rfl, -, -, hk⟩ := h.forms
  have hmf : ∀ (fn : Fn) (first cap : Array Value) (w : World), (Instr.makeFunc fn first cap).run Try.prog w = .ok (.func fn first cap) w := fun _ _ _ _ => rfl
  have H := Lib.hid h
  have HK := Lib.hid hk
  have HS := Lib.hid hS
  clear h hS hk
  have HF : Hid (cmpB f t = true) := by unfold Hid cmpB; rw [if_pos (by omega)]
  have b1 : (t.kd == 1) = true := by rw [e]; rfl
  clear e
  go_enter Try.func25, Try.ntmps25
  go_wp2_with fail
  refine under_nil.mono ?_
  rintro e w1 ⟨rfl, hb1⟩
  have hz1 := hb1.size
  simp at hz1
  have HB : Hid (Blk w1 w.heap.size 40 #[.pointer none] ∧ Blk w1 (w.heap.size + 1) 26 #[.int .i64 t.kd, .string t.nm, .int .i64 t.n, .bool t.fl, .slice A1 t.ns.length c1, .slice A2 t.ms.length c2, .slice A3 t.ks.length c3]) :=
    ⟨((Blk.new w 40 #[.pointer none]).alloc _).below hb1 (by simp; omega), by
      refine Blk.below ?_ hb1 (by simp)
      simpa using Blk.new (w.alloc (.cells #[.pointer none] 40)) 26 #[.int .i64 t.kd, .string t.nm, .int .i64 t.n, .bool t.fl, .slice A1 t.ns.length c1, .slice A2 t.ms.length c2, .slice A3 t.ks.length c3]⟩
  have HX : Hid (Below w.heap.size w w1) := (((Below.refl _ _).alloc (Nat.le_refl _) _).alloc (by simp) _).trans (hb1.mono (by simp; omega))
  have hl1 : w.heap.size < w1.heap.size := by omega
  have hl2 : w.heap.size + 1 < w1.heap.size := by omega
  obtain ⟨n0, n1, n2, n3, n4, n5, n6, nf⟩ := HB.out.2.cells7
  have k0 : w1.cell? ⟨w.heap.size, 0, none⟩ = some (.pointer none) := HB.out.1.cell 0
  clear hb1 hz1
  go_wp2_with fail
  go_ret
  refine ⟨by rw [HF.out]; rfl, ?_⟩
  exact ((((((HX.out.setCell (by simp) _).setCell (by simp) _).setCell (by simp) _).setCell (by simp) _).setCell (by simp) _).setCell (by simp) _).setCell (by simp) _

set_option maxHeartbeats 4000000 in
set_option maxRecDepth 100000 in
theorem cmp_2 {f : T → Bool} {t : T} (e : t.kd = 2) : CmpAt (cmpB f) t := by
  intro cs w S h hS
  obtain ⟨A1, c1, A2, c2, A3, c3, rfl, -, -, hk⟩ := h.forms
  have hmf : ∀ (fn : Fn) (first cap : Array Value) (w : World), (Instr.makeFunc fn first cap).run Try.prog w = .ok (.func fn first cap) w := fun _ _ _ _ => rfl
  have H := Lib.hid h
  have HK := Lib.hid hk
  have HS := Lib.hid hS
  clear h hS hk
  have HF : Hid (cmpB f t = true) := by unfold Hid cmpB; rw [if_pos (by omega)]
  have b1 : (t.kd == 1) = false := by rw [e]; rfl
  have b2 : (t.kd == 2) = true := by rw [e]; rfl
  clear e
  go_enter Try.func25, Try.ntmps25
  go_wp2_with fail
  refine under_nil.mono ?_
  rintro e w1 ⟨rfl, hb1⟩
  have hz1 := hb1.size
  simp at hz1
  have HB : Hid (Blk w1 w.heap.size 40 #[.pointer none] ∧ Blk w1 (w.heap.size + 1) 26 #[.int .i64 t.kd, .string t.nm, .int .i64 t.n, .bool t.fl, .slice A1 t.ns.length c1, .slice A2 t.ms.length c2, .slice A3 t.ks.length c3]) :=
    ⟨((Blk.new w 40 #[.pointer none]).alloc _).below hb1 (by simp; omega), by
      refine Blk.below ?_ hb1 (by simp)
      simpa using Blk.new (w.alloc (.cells #[.pointer none] 40)) 26 #[.int .i64 t.kd, .string t.nm, .int .i64 t.n, .bool t.fl, .slice A1 t.ns.length c1, .slice A2 t.ms.length c2, .slice A3 t.ks.length c3]⟩
  have HX : Hid (Below w.heap.size w w1) := (((Below.refl _ _).alloc (Nat.le_refl _) _).alloc (by simp) _).trans (hb1.mono (by simp; omega))
  have hl1 : w.heap.size < w1.heap.size := by omega
  have hl2 : w.heap.size + 1 < w1.heap.size := by omega
  obtain ⟨n0, n1, n2, n3, n4, n5, n6, nf⟩ := HB.out.2.cells7
  have k0 : w1.cell? ⟨w.heap.size, 0, none⟩ = some (.pointer none) := HB.out.1.cell 0
  clear hb1 hz1
  go_wp2_with fail
  go_ret
  refine ⟨by rw [HF.out]; rfl, ?_⟩
  exact ((((((HX.out.setCell (by simp) _).setCell (by simp) _).setCell (by simp) _).setCell (by simp) _).setCell (by simp) _).setCell (by simp) _).setCell (by simp) _

set_option maxHeartbeats 4000000 in
set_option maxRecDepth 100000 in
theorem cmp_3 {f : T → Bool} {t : T} (e : t.kd = 3) : CmpAt (cmpB f) t := by
  intro cs w S h hS
  obtain ⟨A1, c1, A2, c2, A3, c3, rfl, -, -, hk⟩ := h.forms
  have hmf : ∀ (fn : Fn) (first cap : Array Value) (w : World), (Instr.makeFunc fn first cap).run Try.prog w = .ok (.func fn first cap) w := fun _ _ _ _ => rfl
  have H := Lib.hid h
  have HK := Lib.hid hk
  have HS := Lib.hid hS
  clear h hS hk
  have HF : Hid (cmpB f t = true) := by unfold Hid cmpB; rw [if_pos (by omega)]
  have b1 : (t.kd == 1) = false := by rw [e]; rfl
  have b2 : (t.kd == 2) = false := by rw [e]; rfl
  have b3 : (t.kd == 3) = true := by rw [e]; rfl
  clear e
  go_enter Try.func25, Try.ntmps25
  go_wp2_with fail
  refine under_nil.mono ?_
  rintro e w1 ⟨rfl, hb1⟩
  have hz1 := hb1.size
  simp at hz1
  have HB : Hid (Blk w1 w.heap.size 40 #[.pointer none] ∧ Blk w1 (w.heap.size + 1) 26 #[.int .i64 t.kd, .string t.nm, .int .i64 t.n, .bool t.fl, .slice A1 t.ns.length c1, .slice A2 t.ms.length c2, .slice A3 t.ks.length c3]) :=
    ⟨((Blk.new w 40 #[.pointer none]).alloc _).below hb1 (by simp; omega), by
      refine Blk.below ?_ hb1 (by simp)
      simpa using Blk.new (w.alloc (.cells #[.pointer none] 40)) 26 #[.int .i64 t.kd, .string t.nm, .int .i64 t.n, .bool t.fl, .slice A1 t.ns.length c1, .slice A2 t.ms.length c2, .slice A3 t.ks.length c3]⟩
  have HX : Hid (Below w.heap.size w w1) := (((Below.refl _ _).alloc (Nat.le_refl _) _).alloc (by simp) _).trans (hb1.mono (by simp; omega))
  have hl1 : w.heap.size < w1.heap.size := by omega
  have hl2 : w.heap.size + 1 < w1.heap.size := by omega
  obtain ⟨n0, n1, n2, n3, n4, n5, n6, nf⟩ := HB.out.2.cells7
  have k0 : w1.cell? ⟨w.heap.size, 0, none⟩ = some (.pointer none) := HB.out.1.cell 0
  clear hb1 hz1
  go_wp2_with fail
  go_ret
  refine ⟨by rw [HF.out]; rfl, ?_⟩
  exact ((((((HX.out.setCell (by simp) _).setCell (by simp) _).setCell (by simp) _).setCell (by simp) _).setCell (by simp) _).setCell (by simp) _).setCell (by simp) _

set_option maxHeartbeats 4000000 in
set_option maxRecDepth 100000 in
theorem cmp_4 {f : T → Bool} {t : T} (e : t.kd = 4) : CmpAt (cmpB f) t := by
  intro cs w S h hS
  obtain ⟨A1, c1, A2, c2, A3, c3, rfl, -, -, hk⟩ := h.forms
  have hmf : ∀ (fn : Fn) (first cap : Array Value) (w : World), (Instr.makeFunc fn first cap).run Try.prog w = .ok (.func fn first cap) w := fun _ _ _ _ => rfl
  have H := Lib.hid h
  have HK := Lib.hid hk
  have HS := Lib.hid hS
  clear h hS hk
  have HF : Hid (cmpB f t = true) := by unfold Hid cmpB; rw [if_pos (by omega)]
  have b1 : (t.kd == 1) = false := by rw [e]; rfl
  have b2 : (t.kd == 2) = false := by rw [e]; rfl
  have b3 : (t.kd == 3) = false := by rw [e]; rfl
  have b4 : (t.kd == 4) = true := by rw [e]; rfl
  clear e
  go_enter Try.func25, Try.ntmps25
  go_wp2_with fail
  refine under_nil.mono ?_
  rintro e w1 ⟨rfl, hb1⟩
  have hz1 := hb1.size
  simp at hz1
  have HB : Hid (Blk w1 w.heap.size 40 #[.pointer none] ∧ Blk w1 (w.heap.size + 1) 26 #[.int .i64 t.kd, .string t.nm, .int .i64 t.n, .bool t.fl, .slice A1 t.ns.length c1, .slice A2 t.ms.length c2, .slice A3 t.ks.length c3]) :=
    ⟨((Blk.new w 40 #[.pointer none]).alloc _).below hb1 (by simp; omega), by
      refine Blk.below ?_ hb1 (by simp)
      simpa using Blk.new (w.alloc (.cells #[.pointer none] 40)) 26 #[.int .i64 t.kd, .string t.nm, .int .i64 t.n, .bool t.fl, .slice A1 t.ns.length c1, .slice A2 t.ms.length c2, .slice A3 t.ks.length c3]⟩
  have HX : Hid (Below w.heap.size w w1) := (((Below.refl _ _).alloc (Nat.le_refl _) _).alloc (by simp) _).trans (hb1.mono (by simp; omega))
  have hl1 : w.heap.size < w1.heap.size := by omega
  have hl2 : w.heap.size + 1 < w1.heap.size := by omega
  obtain ⟨n0, n1, n2, n3, n4, n5, n6, nf⟩ := HB.out.2.cells7
  have k0 : w1.cell? ⟨w.heap.size, 0, none⟩ = some (.pointer none) := HB.out.1.cell 0
  clear hb1 hz1
  go_wp2_with fail
  go_ret
  refine ⟨by rw [HF.out]; rfl, ?_⟩
  exact ((((((HX.out.setCell (by simp) _).setCell (by simp) _).setCell (by simp) _).setCell (by simp) _).setCell (by simp) _).setCell (by simp) _).setCell (by simp) _

set_option maxHeartbeats 4000000 in
set_option maxRecDepth 100000 in
theorem cmp_5 {f : T → Bool} {t : T} (e : t.kd = 5) : CmpAt (cmpB f) t := by
  intro cs w S h hS
  obtain ⟨A1, c1, A2, c2, A3, c3, rfl, -, -, hk⟩ := h.forms
  have hmf : ∀ (fn : Fn) (first cap : Array Value) (w : World), (Instr.makeFunc fn first cap).run Try.prog w = .ok (.func fn first cap) w := fun _ _ _ _ => rfl
  have H := Lib.hid h
  have HK := Lib.hid hk
  have HS := Lib.hid hS
  clear h hS hk
  have HF : Hid (cmpB f t = true) := by unfold Hid cmpB; rw [if_pos (by omega)]
  have b1 : (t.kd == 1) = false := by rw [e]; rfl
  have b2 : (t.kd == 2) = false := by rw [e]; rfl
  have b3 : (t.kd == 3) = false := by rw [e]; rfl
  have b4 : (t.kd == 4) = false := by rw [e]; rfl
  have b5 : (t.kd == 5) = true := by rw [e]; rfl
  clear e
  go_enter Try.func25, Try.ntmps25
  go_wp2_with fail
  refine under_nil.mono ?_
  rintro e w1 ⟨rfl, hb1⟩
  have hz1 := hb1.size
  simp at hz1
  have HB : Hid (Blk w1 w.heap.size 40 #[.pointer none] ∧ Blk w1 (w.heap.size + 1) 26 #[.int .i64 t.kd, .string t.nm, .int .i64 t.n, .bool t.fl, .slice A1 t.ns.length c1, .slice A2 t.ms.length c2, .slice A3 t.ks.length c3]) :=
    ⟨((Blk.new w 40 #[.pointer none]).alloc _).below hb1 (by simp; omega), by
      refine Blk.below ?_ hb1 (by simp)
      simpa using Blk.new (w.alloc (.cells #[.pointer none] 40)) 26 #[.int .i64 t.kd, .string t.nm, .int .i64 t.n, .bool t.fl, .slice A1 t.ns.length c1, .slice A2 t.ms.length c2, .slice A3 t.ks.length c3]⟩
  have HX : Hid (Below w.heap.size w w1) := (((Below.refl _ _).alloc (Nat.le_refl _) _).alloc (by simp) _).trans (hb1.mono (by simp; omega))
  have hl1 : w.heap.size < w1.heap.size := by omega
  have hl2 : w.heap.size + 1 < w1.heap.size := by omega
  obtain ⟨n0, n1, n2, n3, n4, n5, n6, nf⟩ := HB.out.2.cells7
  have k0 : w1.cell? ⟨w.heap.size, 0, none⟩ = some (.pointer none) := HB.out.1.cell 0
  clear hb1 hz1
  go_wp2_with fail
  go_ret
  refine ⟨by rw [HF.out]; rfl, ?_⟩
  exact ((((((HX.out.setCell (by simp) _).setCell (by simp) _).setCell (by simp) _).setCell (by simp) _).setCell (by simp) _).setCell (by simp) _).setCell (by simp) _

set_option maxHeartbeats 4000000 in
set_option maxRecDepth 100000 in
theorem cmp_6 {f : T → Bool} {t : T} (e : t.kd = 6) : CmpAt (cmpB f) t := by
  intro cs w S h hS
  obtain ⟨A1, c1, A2, c2, A3, c3, rfl, -, -, hk⟩ := h.forms
  have hmf : ∀ (fn : Fn) (first cap : Array Value) (w : World), (Instr.makeFunc fn first cap).run Try.prog w = .ok (.func fn first cap) w := fun _ _ _ _ => rfl
  have H := Lib.hid h
  have HK := Lib.hid hk
  have HS := Lib.hid hS
  clear h hS hk
  have HF : Hid (cmpB f t = true) := by unfold Hid cmpB; rw [if_pos (by omega)]
  have b1 : (t.kd == 1) = false := by rw [e]; rfl
  have b2 : (t.kd == 2) = false := by rw [e]; rfl
  have b3 : (t.kd == 3) = false := by rw [e]; rfl
  have b4 : (t.kd == 4) = false := by rw [e]; rfl
  have b5 : (t.kd == 5) = false := by rw [e]; rfl
  have b6 : (t.kd == 6) = true := by rw [e]; rfl
  clear e
  go_enter Try.func25, Try.ntmps25
  go_wp2_with fail
  refine under_nil.mono ?_
  rintro e w1 ⟨rfl, hb1⟩
  have hz1 := hb1.size
  simp at hz1
  have HB : Hid (Blk w1 w.heap.size 40 #[.pointer none] ∧ Blk w1 (w.heap.size + 1) 26 #[.int .i64 t.kd, .string t.nm, .int .i64 t.n, .bool t.fl, .slice A1 t.ns.length c1, .slice A2 t.ms.length c2, .slice A3 t.ks.length c3]) :=
    ⟨((Blk.new w 40 #[.pointer none]).alloc _).below hb1 (by simp; omega), by
      refine Blk.below ?_ hb1 (by simp)
      simpa using Blk.new (w.alloc (.cells #[.pointer none] 40)) 26 #[.int .i64 t.kd, .string t.nm, .int .i64 t.n, .bool t.fl, .slice A1 t.ns.length c1, .slice A2 t.ms.length c2, .slice A3 t.ks.length c3]⟩
  have HX : Hid (Below w.heap.size w w1) := (((Below.refl _ _).alloc (Nat.le_refl _) _).alloc (by simp) _).trans (hb1.mono (by simp; omega))
  have hl1 : w.heap.size < w1.heap.size := by omega
  have hl2 : w.heap.size + 1 < w1.heap.size := by omega
  obtain ⟨n0, n1, n2, n3, n4, n5, n6, nf⟩ := HB.out.2.cells7
  have k0 : w1.cell? ⟨w.heap.size, 0, none⟩ = some (.pointer none) := HB.out.1.cell 0
  clear hb1 hz1
  go_wp2_with fail
  go_ret
  refine ⟨by rw [HF.out]; rfl, ?_⟩
  exact ((((((HX.out.setCell (by simp) _).setCell (by simp) _).setCell (by simp) _).setCell (by simp) _).setCell (by simp) _).setCell (by simp) _).setCell (by simp) _

set_option maxHeartbeats 4000000 in
set_option maxRecDepth 100000 in
theorem cmp_10 {f : T → Bool} {t : T} (e : t.kd = 10) : CmpAt (cmpB f) t := by
  intro cs w S h hS
  obtain ⟨A1, c1, A2, c2, A3, c3, rfl, -, -, hk⟩ := h.forms
  have hmf : ∀ (fn : Fn) (first cap : Array Value) (w : World), (Instr.makeFunc fn first cap).run Try.prog w = .ok (.func fn first cap) w := fun _ _ _ _ => rfl
  have H := Lib.hid h
  have HK := Lib.hid hk
  have HS := Lib.hid hS
  clear h hS hk
  have HF : Hid (cmpB f t = true) := by unfold Hid cmpB; rw [if_pos (by omega)]
  have b1 : (t.kd == 1) = false := by rw [e]; rfl
  have b2 : (t.kd == 2) = false := by rw [e]; rfl
  have b3 : (t.kd == 3) = false := by rw [e]; rfl
  have b4 : (t.kd == 4) = false := by rw [e]; rfl
  have b5 : (t.kd == 5) = false := by rw [e]; rfl
  have b6 : (t.kd == 6) = false := by rw [e]; rfl
  have b10 : (t.kd == 10) = true := by rw [e]; rfl
  clear e
  go_enter Try.func25, Try.ntmps25
  go_wp2_with fail
  refine under_nil.mono ?_
  rintro e w1 ⟨rfl, hb1⟩
  have hz1 := hb1.size
  simp at hz1
  have HB : Hid (Blk w1 w.heap.size 40 #[.pointer none] ∧ Blk w1 (w.heap.size + 1) 26 #[.int .i64 t.kd, .string t.nm, .int .i64 t.n, .bool t.fl, .slice A1 t.ns.length c1, .slice A2 t.ms.length c2, .slice A3 t.ks.length c3]) :=
    ⟨((Blk.new w 40 #[.pointer none]).alloc _).below hb1 (by simp; omega), by
      refine Blk.below ?_ hb1 (by simp)
      simpa using Blk.new (w.alloc (.cells #[.pointer none] 40)) 26 #[.int .i64 t.kd, .string t.nm, .int .i64 t.n, .bool t.fl, .slice A1 t.ns.length c1, .slice A2 t.ms.length c2, .slice A3 t.ks.length c3]⟩
  have HX : Hid (Below w.heap.size w w1) := (((Below.refl _ _).alloc (Nat.le_refl _) _).alloc (by simp) _).trans (hb1.mono (by simp; omega))
  have hl1 : w.heap.size < w1.heap.size := by omega
  have hl2 : w.heap.size + 1 < w1.heap.size := by omega
  obtain ⟨n0, n1, n2, n3, n4, n5, n6, nf⟩ := HB.out.2.cells7
  have k0 : w1.cell? ⟨w.heap.size, 0, none⟩ = some (.pointer none) := HB.out.1.cell 0
  clear hb1 hz1
  go_wp2_with fail
  go_ret
  refine ⟨by rw [HF.out]; rfl, ?_⟩
  exact ((((((HX.out.setCell (by simp) _).setCell (by simp) _).setCell (by simp) _).setCell (by simp) _).setCell (by simp) _).setCell (by simp) _).setCell (by simp) _

set_option maxHeartbeats 4000000 in
set_option maxRecDepth 100000 in
theorem cmp_12 {f : T → Bool} {t : T} (e : t.kd = 12) : CmpAt (cmpB f) t := by
  intro cs w S h hS
  obtain ⟨A1, c1, A2, c2, A3, c3, rfl, -, -, hk⟩ := h.forms
  have hmf : ∀ (fn : Fn) (first cap : Array Value) (w : World), (Instr.makeFunc fn first cap).run Try.prog w = .ok (.func fn first cap) w := fun _ _ _ _ => rfl
  have H := Lib.hid h
  have HK := Lib.hid hk
  have HS := Lib.hid hS
  clear h hS hk
  have HF : Hid (cmpB f t = true) := by unfold Hid cmpB; rw [if_pos (by omega)]
  have b1 : (t.kd == 1) = false := by rw [e]; rfl
  have b2 : (t.kd == 2) = false := by rw [e]; rfl
  have b3 : (t.kd == 3) = false := by rw [e]; rfl
  have b4 : (t.kd == 4) = false := by rw [e]; rfl
  have b5 : (t.kd == 5) = false := by rw [e]; rfl
  have b6 : (t.kd == 6) = false := by rw [e]; rfl
  have b10 : (t.kd == 10) = false := by rw [e]; rfl
  have b12 : (t.kd == 12) = true := by rw [e]; rfl
  clear e
  go_enter Try.func25, Try.ntmps25
  go_wp2_with fail
  refine under_nil.mono ?_
  rintro e w1 ⟨rfl, hb1⟩
  have hz1 := hb1.size
  simp at hz1
  have HB : Hid (Blk w1 w.heap.size 40 #[.pointer none] ∧ Blk w1 (w.heap.size + 1) 26 #[.int .i64 t.kd, .string t.nm, .int .i64 t.n, .bool t.fl, .slice A1 t.ns.length c1, .slice A2 t.ms.length c2, .slice A3 t.ks.length c3]) :=
    ⟨((Blk.new w 40 #[.pointer none]).alloc _).below hb1 (by simp; omega), by
      refine Blk.below ?_ hb1 (by simp)
      simpa using Blk.new (w.alloc (.cells #[.pointer none] 40)) 26 #[.int .i64 t.kd, .string t.nm, .int .i64 t.n, .bool t.fl, .slice A1 t.ns.length c1, .slice A2 t.ms.length c2, .slice A3 t.ks.length c3]⟩
  have HX : Hid (Below w.heap.size w w1) := (((Below.refl _ _).alloc (Nat.le_refl _) _).alloc (by simp) _).trans (hb1.mono (by simp; omega))
  have hl1 : w.heap.size < w1.heap.size := by omega
  have hl2 : w.heap.size + 1 < w1.heap.size := by omega
  obtain ⟨n0, n1, n2, n3, n4, n5, n6, nf⟩ := HB.out.2.cells7
  have k0 : w1.cell? ⟨w.heap.size, 0, none⟩ = some (.pointer none) := HB.out.1.cell 0
  clear hb1 hz1
  go_wp2_with fail
  go_ret
  refine ⟨by rw [HF.out]; rfl, ?_⟩
  exact ((((((HX.out.setCell (by simp) _).setCell (by simp) _).setCell (by simp) _).setCell (by simp) _).setCell (by simp) _).setCell (by simp) _).setCell (by simp) _

set_option maxHeartbeats 4000000 in
set_option maxRecDepth 100000 in
theorem cmp_15 {f : T → Bool} {t : T} (e : t.kd = 15) : CmpAt (cmpB f) t := by
  intro cs w S h hS
  obtain ⟨A1, c1, A2, c2, A3, c3, rfl, -, -, hk⟩ := h.forms
  have hmf : ∀ (fn : Fn) (first cap : Array Value) (w : World), (Instr.makeFunc fn first cap).run Try.prog w = .ok (.func fn first cap) w := fun _ _ _ _ => rfl
  have H := Lib.hid h
  have HK := Lib.hid hk
  have HS := Lib.hid hS
  clear h hS hk
  have HF : Hid (cmpB f t = true) := by unfold Hid cmpB; rw [if_pos (by omega)]
  have b1 : (t.kd == 1) = false := by rw [e]; rfl
  have b2 : (t.kd == 2) = false := by rw [e]; rfl
  have b3 : (t.kd == 3) = false := by rw [e]; rfl
  have b4 : (t.kd == 4) = false := by rw [e]; rfl
  have b5 : (t.kd == 5) = false := by rw [e]; rfl
  have b6 : (t.kd == 6) = false := by rw [e]; rfl
  have b10 : (t.kd == 10) = false := by rw [e]; rfl
  have b12 : (t.kd == 12) = false := by rw [e]; rfl
  have b15 : (t.kd == 15) = true := by rw [e]; rfl
  clear e
  go_enter Try.func25, Try.ntmps25
  go_wp2_with fail
  refine under_nil.mono ?_
  rintro e w1 ⟨rfl, hb1⟩
  have hz1 := hb1.size
  simp at hz1
  have HB : Hid (Blk w1 w.heap.size 40 #[.pointer none] ∧ Blk w1 (w.heap.size + 1) 26 #[.int .i64 t.kd, .string t.nm, .int .i64 t.n, .bool t.fl, .slice A1 t.ns.length c1, .slice A2 t.ms.length c2, .slice A3 t.ks.length c3]) :=
    ⟨((Blk.new w 40 #[.pointer none]).alloc _).below hb1 (by simp; omega), by
      refine Blk.below ?_ hb1 (by simp)
      simpa using Blk.new (w.alloc (.cells #[.pointer none] 40)) 26 #[.int .i64 t.kd, .string t.nm, .int .i64 t.n, .bool t.fl, .slice A1 t.ns.length c1, .slice A2 t.ms.length c2, .slice A3 t.ks.length c3]⟩
  have HX : Hid (Below w.heap.size w w1) := (((Below.refl _ _).alloc (Nat.le_refl _) _).alloc (by simp) _).trans (hb1.mono (by simp; omega))
  have hl1 : w.heap.size < w1.heap.size := by omega
  have hl2 : w.heap.size + 1 < w1.heap.size := by omega
  obtain ⟨n0, n1, n2, n3, n4, n5, n6, nf⟩ := HB.out.2.cells7
  have k0 : w1.cell? ⟨w.heap.size, 0, none⟩ = some (.pointer none) := HB.out.1.cell 0
  clear hb1 hz1
  go_wp2_with fail
  go_ret
  refine ⟨by rw [HF.out]; rfl, ?_⟩
  exact ((((((HX.out.setCell (by simp) _).setCell (by simp) _).setCell (by simp) _).setCell (by simp) _).setCell (by simp) _).setCell (by simp) _).setCell (by simp) _

set_option maxHeartbeats 4000000 in
set_option maxRecDepth 100000 in
theorem cmp_14 {f : T → Bool} {t : T} (ih : ∀ k ∈ t.ks, CmpAt f k) (e : t.kd = 14) : CmpAt (cmpB f) t := by
  intro cs w S h hS
  obtain ⟨A1, c1, A2, c2, A3, c3, rfl, -, -, hk⟩ := h.forms
  have hmf : ∀ (fn : Fn) (first cap : Array Value) (w : World), (Instr.makeFunc fn first cap).run Try.prog w = .ok (.func fn first cap) w := fun _ _ _ _ => rfl
  have H := Lib.hid h
  have HK := Lib.hid hk
  have HS := Lib.hid hS
  clear h hS hk
  have HF : Hid (cmpB f t = t.ks.all f) := by unfold Hid cmpB; rw [if_neg (by omega), if_pos e]
  have IH := Lib.hid ih
  have b1 : (t.kd == 1) = false := by rw [e]; rfl
  have b2 : (t.kd == 2) = false := by rw [e]; rfl
  have b3 : (t.kd == 3) = false := by rw [e]; rfl
  have b4 : (t.kd == 4) = false := by rw [e]; rfl
  have b5 : (t.kd == 5) = false := by rw [e]; rfl
  have b6 : (t.kd == 6) = false := by rw [e]; rfl
  have b10 : (t.kd == 10) = false := by rw [e]; rfl
  have b12 : (t.kd == 12) = false := by rw [e]; rfl
  have b15 : (t.kd == 15) = false := by rw [e]; rfl
  have b14 : (t.kd == 14) = true := by rw [e]; rfl
  clear ih e
  go_enter Try.func25, Try.ntmps25
  go_wp2_with fail
  refine under_nil.mono ?_
  rintro e w1 ⟨rfl, hb1⟩
  have hz1 := hb1.size
  simp at hz1
  have HB : Hid (Blk w1 w.heap.size 40 #[.pointer none] ∧ Blk w1 (w.heap.size + 1) 26 #[.int .i64 t.kd, .string t.nm, .int .i64 t.n, .bool t.fl, .slice A1 t.ns.length c1, .slice A2 t.ms.length c2, .slice A3 t.ks.length c3]) :=
    ⟨((Blk.new w 40 #[.pointer none]).alloc _).below hb1 (by simp; omega), by
      refine Blk.below ?_ hb1 (by simp)
      simpa using Blk.new (w.alloc (.cells #[.pointer none] 40)) 26 #[.int .i64 t.kd, .string t.nm, .int .i64 t.n, .bool t.fl, .slice A1 t.ns.length c1, .slice A2 t.ms.length c2, .slice A3 t.ks.length c3]⟩
  have HX : Hid (Below w.heap.size w w1) := (((Below.refl _ _).alloc (Nat.le_refl _) _).alloc (by simp) _).trans (hb1.mono (by simp; omega))
  have hl1 : w.heap.size < w1.heap.size := by omega
  have hl2 : w.heap.size + 1 < w1.heap.size := by omega
  obtain ⟨n0, n1, n2, n3, n4, n5, n6, nf⟩ := HB.out.2.cells7
  have k0 : w1.cell? ⟨w.heap.size, 0, none⟩ = some (.pointer none) := HB.out.1.cell 0
  clear hb1 hz1
  go_wp2_with fail
  refine (contains1 (f := f) (g := w.heap.size) (S := S) IH.out (HK.out.keep ?sx (fun _ h => h)) ?so ?sg ?sc).mono ?_
  case sx =>
    refine SameOn.trans (SameOn.of_below HX.out HS.out) ?_
    have hn : ¬S (w.heap.size + 1) := fun h => by have h1 := HS.out _ h; omega
    refine SameOn.set_ (SameOn.set_ (SameOn.set_ (SameOn.set_ (SameOn.set_ (SameOn.set_ (SameOn.set_ ?_ hn _) hn _) hn _) hn _) hn _) hn _) hn _
    exact SameOn.refl _ _
  case so => intro b hb; have := HS.out b hb; simp [World.setCell]; omega
  case sg => simp [World.setCell]; omega
  case sc => go_simp
  rintro e w2 ⟨rfl, hb2⟩
  have hz2 := hb2.size
  simp [World.setCell] at hz2
  have HB2 : Hid (Below w.heap.size w w2) := (((((((HX.out.setCell (by simp) _).setCell (by simp) _).setCell (by simp) _).setCell (by simp) _).setCell (by simp) _).setCell (by simp) _).setCell (by simp) _).trans (hb2.mono (by simp [World.setCell]; omega))
  obtain ⟨r, hr⟩ : ∃ r, t.ks.all f = r := ⟨_, rfl⟩
  have HR := Lib.hid hr
  rw [hr]
  clear hr hb2
  go_wp2_with fail
  go_ret
  exact ⟨by rw [HF.out, HR.out]; cases r <;> rfl, HB2.out⟩

set_option maxHeartbeats 4000000 in
set_option maxRecDepth 100000 in
theorem cmp_else {f : T → Bool} {t : T} (ih : ∀ k ∈ (t.kid 0).ks, CmpAt f k) (e1 : ¬t.kd = 1) (e2 : ¬t.kd = 2) (e3 : ¬t.kd = 3) (e4 : ¬t.kd = 4) (e5 : ¬t.kd = 5) (e6 : ¬t.kd = 6) (e10 : ¬t.kd = 10) (e12 : ¬t.kd = 12) (e15 : ¬t.kd = 15) (e14 : ¬t.kd = 14) : CmpAt (cmpB f) t := by
  intro cs w S h hS
  obtain ⟨A1, c1, A2, c2, A3, c3, rfl, -, -, hk⟩ := h.forms
  have hmf : ∀ (fn : Fn) (first cap : Array Value) (w : World), (Instr.makeFunc fn first cap).run Try.prog w = .ok (.func fn first cap) w := fun _ _ _ _ => rfl
  have H := Lib.hid h
  have HK := Lib.hid hk
  have HS := Lib.hid hS
  clear h hS hk
  have HF : Hid (cmpB f t = (unionB t && (decide ((t.kid 0).n = 1) || (t.kid 0).ks.all f))) := by
    unfold Hid cmpB unionB
    rw [if_neg (by omega), if_neg e14]
    by_cases hu : t.kd = 9 ∧ (t.kid 0).kd = 16
    · rw [if_pos hu, decide_eq_true hu, Bool.true_and]
    · rw [if_neg hu, decide_eq_false hu, Bool.false_and]
  have b1 : (t.kd == 1) = false := by simpa using e1
  have b2 : (t.kd == 2) = false := by simpa using e2
  have b3 : (t.kd == 3) = false := by simpa using e3
  have b4 : (t.kd == 4) = false := by simpa using e4
  have b5 : (t.kd == 5) = false := by simpa using e5
  have b6 : (t.kd == 6) = false := by simpa using e6
  have b10 : (t.kd == 10) = false := by simpa using e10
  have b12 : (t.kd == 12) = false := by simpa using e12
  have b15 : (t.kd == 15) = false := by simpa using e15
  have b14 : (t.kd == 14) = false := by simpa using e14
  have IH := Lib.hid ih
  clear ih e1 e2 e3 e4 e5 e6 e10 e12 e15 e14
  go_enter Try.func25, Try.ntmps25
  go_wp2_with fail
  refine under_nil.mono ?_
  rintro e w1 ⟨rfl, hb1⟩
  have hz1 := hb1.size
  simp at hz1
  have HB : Hid (Blk w1 w.heap.size 40 #[.pointer none] ∧ Blk w1 (w.heap.size + 1) 26 #[.int .i64 t.kd, .string t.nm, .int .i64 t.n, .bool t.fl, .slice A1 t.ns.length c1, .slice A2 t.ms.length c2, .slice A3 t.ks.length c3]) :=
    ⟨((Blk.new w 40 #[.pointer none]).alloc _).below hb1 (by simp; omega), by
      refine Blk.below ?_ hb1 (by simp)
      simpa using Blk.new (w.alloc (.cells #[.pointer none] 40)) 26 #[.int .i64 t.kd, .string t.nm, .int .i64 t.n, .bool t.fl, .slice A1 t.ns.length c1, .slice A2 t.ms.length c2, .slice A3 t.ks.length c3]⟩
  have HX : Hid (Below w.heap.size w w1) := (((Below.refl _ _).alloc (Nat.le_refl _) _).alloc (by simp) _).trans (hb1.mono (by simp; omega))
  have hl1 : w.heap.size < w1.heap.size := by omega
  have hl2 : w.heap.size + 1 < w1.heap.size := by omega
  obtain ⟨n0, n1, n2, n3, n4, n5, n6, nf⟩ := HB.out.2.cells7
  have k0 : w1.cell? ⟨w.heap.size, 0, none⟩ = some (.pointer none) := HB.out.1.cell 0
  clear hb1 hz1
  go_wp2_with fail
  have hsame : ∀ V, SameOn (fun b => b ≠ w.heap.size + 1) w1 V → TyR V S t [.int .i64 t.kd, .string t.nm, .int .i64 t.n, .bool t.fl, .slice A1 t.ns.length c1, .slice A2 t.ms.length c2, .slice A3 t.ks.length c3] := fun V hV =>
    H.out.keep ((SameOn.of_below HX.out HS.out).trans (hV.sub (fun b hb e => by have := HS.out b hb; omega))) (fun _ h => h)
  refine (union_calls (S := S) (hsame _ ?sx) ?so).mono ?_
  case sx =>
    have hn : ¬(fun b : Nat => b ≠ w.heap.size + 1) (w.heap.size + 1) := fun h => h rfl
    refine SameOn.set_ (SameOn.set_ (SameOn.set_ (SameOn.set_ (SameOn.set_ (SameOn.set_ (SameOn.set_ ?_ hn _) hn _) hn _) hn _) hn _) hn _) hn _
    exact SameOn.refl _ _
  case so => intro b hb; have := HS.out b hb; simp [World.setCell]; omega
  rintro e w2 ⟨E1, e1, E2, e2, E3, e3, rfl, hty, hb2⟩
  have hz2 := hb2.size
  simp [World.setCell] at hz2
  have HB2 : Hid (Below w.heap.size w w2) := (((((((HX.out.setCell (by simp) _).setCell (by simp) _).setCell (by simp) _).setCell (by simp) _).setCell (by simp) _).setCell (by simp) _).setCell (by simp) _).trans (hb2.mono (by simp [World.setCell]; omega))
  have k2 : w2.cell? ⟨w.heap.size, 0, none⟩ = some (.pointer none) := by
    refine (cell_below hb2 (by simp [World.setCell]; omega)).trans ?_
    go_simp
  have HTY := Lib.hid hty
  have hm1 : w.heap.size < w2.heap.size := by omega
  clear hty hb2 hsame n0 n1 n2 n3 n4 n5 n6 nf k0
  obtain ⟨u, hu⟩ : ∃ u, unionB t = u := ⟨_, rfl⟩
  have HU := Lib.hid hu
  rw [hu]
  clear hu
  cases u with
  | false =>
    go_wp2_with fail
    go_ret
    exact ⟨by rw [HF.out, HU.out]; rfl, HB2.out.alloc (by omega) _⟩
  | true =>
    by_cases h1 : (t.kid 0).n = 1
    · have HN := Lib.hid h1
      have hb : ((t.kid 0).n == 1) = true := by simpa using h1
      clear h1
      go_wp2_with fail
      go_ret
      exact ⟨by rw [HF.out, HU.out, decide_eq_true HN.out]; rfl, HB2.out.alloc (by omega) _⟩
    · have HN := Lib.hid h1
      have hb : ((t.kid 0).n == 1) = false := by simpa using h1
      clear h1
      obtain ⟨F1, f1, F2, f2, F3, f3, hcs, -, -, hkk⟩ := HTY.out.forms
      simp only [List.cons.injEq, Value.slice.injEq, and_true, true_and] at hcs
      obtain ⟨⟨rfl, rfl⟩, ⟨rfl, rfl⟩, rfl, rfl⟩ := hcs
      have HKK := Lib.hid hkk
      clear hkk
      go_wp2_with fail
      refine (contains2 (f := f) (g := w.heap.size) (S := S) IH.out (HKK.out.keep ((SameOn.refl _ _).alloc (HS.out.below HB2.out) _) (fun _ h => h)) ((HS.out.below HB2.out).alloc _) (by simp; omega) (by go_simp)).mono ?_
      rintro e w3 ⟨rfl, hb3⟩
      have HB3 : Hid (Below w.heap.size w w3) := (HB2.out.alloc (by omega) _).trans (hb3.mono (by simp; omega))
      obtain ⟨r, hr⟩ : ∃ r, (t.kid 0).ks.all f = r := ⟨_, rfl⟩
      have HR := Lib.hid hr
      rw [hr]
      clear hr hb3
      go_wp2_with fail
      go_ret
      exact ⟨by rw [HF.out, HU.out, decide_eq_false HN.out, HR.out]; cases r <;> rfl, HB3.out⟩

theorem cmp_step {f : T → Bool} {t : T} (ih : ∀ k ∈ t.ks, CmpAt f k) (ih0 : ∀ k ∈ (t.kid 0).ks, CmpAt f k) : CmpAt (cmpB f) t := by
  by_cases e1 : t.kd = 1
  · exact cmp_1 e1
  by_cases e2 : t.kd = 2
  · exact cmp_2 e2
  by_cases e3 : t.kd = 3
  · exact cmp_3 e3
  by_cases e4 : t.kd = 4
  · exact cmp_4 e4
  by_cases e5 : t.kd = 5
  · exact cmp_5 e5
  by_cases e6 : t.kd = 6
  · exact cmp_6 e6
  by_cases e10 : t.kd = 10
  · exact cmp_10 e10
  by_cases e12 : t.kd = 12
  · exact cmp_12 e12
  by_cases e15 : t.kd = 15
  · exact cmp_15 e15
  by_cases e14 : t.kd = 14
  · exact cmp_14 ih e14
  exact cmp_else ih0 e1 e2 e3 e4 e5 e6 e10 e12 e15 e14
theorem kid_mem_sz {t k : T} (h : k ∈ (t.kid 0).ks) : k.sz + 1 < t.sz := by
  have e : ∀ t : T, t.sz = T.szL t.ks + 1 := fun t => by obtain ⟨k, nm, n, f, ns, ms, ks⟩ := t; rw [sz_mk]; rfl
  by_cases hi : 0 < t.ks.length
  · rw [T.kid_at hi] at h
    obtain ⟨j, hj, rfl⟩ := List.getElem_of_mem h
    have h1 := szL_mem hi
    have h2 := szL_mem hj
    rw [e t]
    have := e t.ks[0]
    omega
  · rw [T.kid_out (by omega)] at h; cases h
theorem cmp_any : ∀ (n : Nat) (t : T), t.sz ≤ n → CmpAt (cmp n) t
  | 0, t, h => by obtain ⟨k, nm, n, f, ns, ms, ks⟩ := t; rw [sz_mk] at h; omega
  | n + 1, t, h => cmp_step (f := cmp n) (fun k hk => cmp_any n k (by
      obtain ⟨i, hi, rfl⟩ := List.getElem_of_mem hk
      have := szL_mem hi
      have e : t.sz = T.szL t.ks + 1 := by obtain ⟨k, nm, n, f, ns, ms, ks⟩ := t; rw [sz_mk]; rfl
      omega)) (fun k hk => cmp_any n k (by have := kid_mem_sz hk; omega))
end Go.Proofs.Ytanhdklaponekaa
