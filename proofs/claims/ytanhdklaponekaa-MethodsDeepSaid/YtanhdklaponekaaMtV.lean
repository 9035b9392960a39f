/- methods.Set: the walk. -/
import Derived.Test.YtanhdklaponekaaMtG
namespace Go.Proofs.Ytanhdklaponekaa
open Go Go.RowKit

/-- which names stay -/
def keepN (fnd : ByteArray → Option Fd) (ptr : Bool) (s : ByteArray) : Bool := match fnd s with
  | some f => !(f.kd == 7) && (ptr || !f.p)
  | none => false
def setN (fnd : ByteArray → Option Fd) (ptr : Bool) (sn : List ByteArray) : List ByteArray := sn.filter (keepN fnd ptr)
theorem info_method : (Try.prog.info? 89).map (fun i => (i.zero, i.size, i.bytes)) = some (some (.agg #[.string ByteArray.empty, .bool false, .int .i64 0, .string ByteArray.empty, .int .i64 0, .bool false, .slice none 0 0, .slice none 0 0, .slice none 0 0]), 9, 136) := by kernel_rfl

theorem keep_no (ok df p : Bool) (k : Int) (h : (ok && (!(k == 7) && (df || !p))) = false) : ok = false ∨ (ok = true ∧ (k != 7) = false) ∨ (ok = true ∧ (k != 7) = true ∧ df = false ∧ p = true) := by
  rw [show (k != 7) = !(k == 7) from rfl]
  generalize (k == 7) = q at h ⊢
  cases q <;> cases ok <;> cases df <;> cases p <;> simp at h ⊢
theorem keep_yes (ok df p : Bool) (k : Int) (h : (ok && (!(k == 7) && (df || !p))) = true) : ok = true ∧ (k != 7) = true ∧ (df = true ∨ (df = false ∧ p = false)) := by
  rw [show (k != 7) = !(k == 7) from rfl]
  generalize (k == 7) = q at h ⊢
  cases q <;> cases ok <;> cases df <;> cases p <;> simp at h ⊢

set_option maxHeartbeats 4000000 in
set_option maxRecDepth 100000 in
theorem set_calls {L : List Nd} {U : T → T} {g n : Nat} {w : World} {S Sw : Nat → Prop} {t : T} {cs : List Value} {names sn : List ByteArray} {fnd : ByteArray → Option Fd} (h : WC w Sw g L) (hU : UndF L U) (ht : TyR w S t cs) (hok : t.ok) (hS : Old S w)
    (hp : (lookedP U t).2 = true ∨ (U t).kd ≠ 10) (hr : RunR L U stepS (fun _ _ => true) (fun s => s.length ≤ 1000000000) n [] [((lookedP U t).1, [])] [] names) (ho : Ordered sn names) (hl : sn.length ≤ 1000000)
    (hf : ∀ s ∈ sn, ∃ m r, RunR L U (stepL s (lookedP U t).2) (contL s (lookedP U t).2) (fun s => s = []) m [] [((lookedP U t).1, [])] [] r ∧ foundP r = fnd s) :
    Calls Try.prog 62 #[.pointer (some ⟨g, 0, none⟩), .agg cs.toArray] w fun e w' => ∃ A c, e = .returned (.slice A (setN fnd (lookedP U t).2 sn).length c) ∧ Below w.heap.size w w' := by
  obtain ⟨A1, c1, A2, c2, A3, c3, rfl, -⟩ := ht.forms
  have H := Lib.hid h
  have HU := Lib.hid hU
  have HT := Lib.hid ht
  have HK := Lib.hid hok
  have HS := Lib.hid hS
  have HP := Lib.hid hp
  have HR := Lib.hid hr
  have HO := Lib.hid ho
  have HF := Lib.hid hf
  have hmm := mm_int
  have hmf : ∀ (fn : Fn) (first cap : Array Value) (w : World), (Instr.makeFunc fn first cap).run Try.prog w = .ok (.func fn first cap) w := fun _ _ _ _ => rfl
  clear h hU ht hok hS hp hr ho hf
  go_enter Try.func62, Try.ntmps62
  go_wp2_with fail
  obtain ⟨x, hx⟩ : ∃ x, (lookedP U t).1 = x := ⟨_, rfl⟩
  obtain ⟨df, hdf⟩ : ∃ df, (lookedP U t).2 = df := ⟨_, rfl⟩
  obtain ⟨w3, hw3⟩ : ∃ w3, w3 = ((w.alloc (.cells #[.int .i64 t.kd, .string t.nm, .int .i64 t.n, .bool t.fl, .slice A1 t.ns.length c1, .slice A2 t.ms.length c2, .slice A3 t.ks.length c3] 26)).alloc (.map #[] 0)).alloc (.cells #[.map (some (w.heap.size + 1))] 101) := ⟨_, rfl⟩
  rw [← hw3]
  have hz3 : w3.heap.size = w.heap.size + 3 := by rw [hw3]; simp
  have hb3 : Below w.heap.size w w3 := by rw [hw3]; exact ((below_al _ _).alloc (by simp) _).alloc (by simp; omega) _
  have hB0 : Blk w3 w.heap.size 26 #[.int .i64 t.kd, .string t.nm, .int .i64 t.n, .bool t.fl, .slice A1 t.ns.length c1, .slice A2 t.ms.length c2, .slice A3 t.ks.length c3] := by rw [hw3]; exact ((Blk.new w _ _).alloc _).alloc _
  have hM3 : MetR w3 (w.heap.size + 1) [] := by
    rw [hw3]
    have h1 : MetR ((w.alloc (.cells #[.int .i64 t.kd, .string t.nm, .int .i64 t.n, .bool t.fl, .slice A1 t.ns.length c1, .slice A2 t.ms.length c2, .slice A3 t.ks.length c3] 26)).alloc (.map #[] 0)) (w.heap.size + 1) [] := by
      have := metR_made (w.alloc (.cells #[.int .i64 t.kd, .string t.nm, .int .i64 t.n, .bool t.fl, .slice A1 t.ns.length c1, .slice A2 t.ms.length c2, .slice A3 t.ks.length c3] 26))
      simpa using this
    exact h1.same (Below.heap_alloc _ _ _ h1.lt)
  have hB2 : Blk w3 (w.heap.size + 1 + 1) 101 #[.map (some (w.heap.size + 1))] := by
    rw [hw3]
    have := Blk.new ((w.alloc (.cells #[.int .i64 t.kd, .string t.nm, .int .i64 t.n, .bool t.fl, .slice A1 t.ns.length c1, .slice A2 t.ms.length c2, .slice A3 t.ks.length c3] 26)).alloc (.map #[] 0)) 101 #[.map (some (w.heap.size + 1))]
    simpa using this
  refine (looked_calls (L := L) (U := U) (S := Sw) (S' := S) (t := t) (cs := [.int .i64 t.kd, .string t.nm, .int .i64 t.n, .bool t.fl, .slice A1 t.ns.length c1, .slice A2 t.ms.length c2, .slice A3 t.ks.length c3]) (H.out.below hb3) HU.out (HT.out.keep (SameOn.of_below hb3 HS.out) fun _ h => h) (HS.out.below hb3) HK.out).mono ?_
  rintro e w1 ⟨ds, rfl, hd, hdk, hb1⟩
  have hz1 := hb1.size
  rw [hx] at hd hdk
  rw [hdf]
  obtain ⟨B1, d1, B2, d2, B3, d3, rfl, -⟩ := hd.forms
  have HB0 := Lib.hid (hB0.below hb1 (by omega))
  have HB2 := Lib.hid (hB2.below hb1 (by omega))
  have HM1 := Lib.hid (hM3.same (hb1.block _ hM3.lt))
  have HX1 : Hid (Below w.heap.size w w1) := hb3.trans (hb1.mono (by omega))
  have HD : Hid (TyR w1 (fun b => b < w1.heap.size ∧ b ≠ w.heap.size + 1) x [.int .i64 x.kd, .string x.nm, .int .i64 x.n, .bool x.fl, .slice B1 x.ns.length d1, .slice B2 x.ms.length d2, .slice B3 x.ks.length d3]) := hd.keep (SameOn.refl _ _) fun b hb => by
    rcases hb with hb | hb
    · have := HS.out b hb; omega
    · have h1 := hb.1
      have h2 := hb.2
      omega
  have HDK := Lib.hid hdk
  have HDF : Hid ((lookedP U t).2 = df) := hdf
  have HXX : Hid ((lookedP U t).1 = x) := hx
  clear hw3 hB0 hM3 hB2 hd hdk hb1 hb3 hx hdf hmm
  obtain ⟨k0, k1, k2, k3, k4, k5, k6, kf⟩ := HB0.out.cells7
  have n0 : w1.cell? ⟨w.heap.size + 1 + 1, 0, none⟩ = _ := HB2.out.cell 0
  have hl0 : w.heap.size < w1.heap.size := by omega
  have hl2 : w.heap.size + 1 + 1 < w1.heap.size := by omega
  go_upto_region 3 with fail
  go_cut [28] (fun s28 W => s28 = .bool false ∧ Hid (Below (w1.heap.size + 1) (w1.alloc (.cells #[.int .i64 x.kd, .string x.nm, .int .i64 x.n, .bool x.fl, .slice B1 x.ns.length d1, .slice B2 x.ms.length d2, .slice B3 x.ks.length d3] 26)) W))
  case first =>
    cases df with
    | true =>
      go_wp2_with fail
      go_meet
      exact ⟨rfl, Below.refl _ _⟩
    | false =>
      have hne : (U t).kd ≠ 10 := by
        rcases HP.out with e | e
        · rw [HDF.out] at e; exact absurd e (by simp)
        · exact e
      have b10 : ((U t).kd == 10) = false := by simpa using hne
      obtain ⟨m, hm⟩ := HU.out t
      have HMU := Lib.hid hm
      have hfk := fieldK
      obtain ⟨u, hu⟩ : ∃ u, U t = u := ⟨_, rfl⟩
      rw [hu] at b10 HMU
      clear hne hm hu
      go_wp2_with fail
      refine (wunder_calls (L := L) (S := Sw) (S' := S) (t := t) (cs := [.int .i64 t.kd, .string t.nm, .int .i64 t.n, .bool t.fl, .slice A1 t.ns.length c1, .slice A2 t.ms.length c2, .slice A3 t.ks.length c3]) ((H.out.below HX1.out).alloc _) (HT.out.keep (SameOn.of_below (HX1.out.alloc (by omega) _) HS.out) fun _ h => h) ((HS.out.below HX1.out).alloc _) HK.out HMU.out).mono ?_
      rintro e w2 ⟨h2, -⟩
      obtain ⟨F1, f1, F2, f2, F3, f3, rfl, -, hb2⟩ := h2.forms
      have HB2' : Hid (Below (w1.heap.size + 1) (w1.alloc (.cells #[.int .i64 x.kd, .string x.nm, .int .i64 x.n, .bool x.fl, .slice B1 x.ns.length d1, .slice B2 x.ms.length d2, .slice B3 x.ks.length d3] 26)) w2) := hb2.mono (by simp)
      clear h2 hb2
      go_wp2_with fail
      go_meet
      exact ⟨rfl, HB2'⟩
  case rest =>
    obtain ⟨rfl, HBC⟩ := hcut
    have hzc := HBC.out.size
    simp at hzc
    have HXC : Hid (Below w1.heap.size w1 wc) := (below_al _ _).trans (HBC.out.mono (by omega))
    have HX2 : Hid (Below w.heap.size w wc) := HX1.out.trans (HXC.out.mono (by omega))
    have HP1 : Hid (Blk wc w1.heap.size 26 #[.int .i64 x.kd, .string x.nm, .int .i64 x.n, .bool x.fl, .slice B1 x.ns.length d1, .slice B2 x.ms.length d2, .slice B3 x.ks.length d3]) := (Blk.new w1 _ _).below HBC.out (by omega)
    obtain ⟨p0, p1, p2, p3, p4, p5, p6, pf⟩ := HP1.out.cells7
    have hpl := HP1.out.lt
    have HC2 := Lib.hid (HB2.out.below HXC.out hl2)
    have hmc : wc.cell? ⟨w.heap.size + 1 + 1, 0, none⟩ = _ := HC2.out.cell 0
    have HMC := Lib.hid (HM1.out.same (HXC.out.block _ HM1.out.lt))
    have hml := HMC.out.lt
    have HDC : Hid (TyR wc (fun b => b < w1.heap.size ∧ b ≠ w.heap.size + 1) x [.int .i64 x.kd, .string x.nm, .int .i64 x.n, .bool x.fl, .slice B1 x.ns.length d1, .slice B2 x.ms.length d2, .slice B3 x.ks.length d3]) := HD.out.keep (SameOn.of_below HXC.out fun b hb => hb.1) fun _ h => h
    have HDEP := Lib.hid (dep_set (w := wc) (nc := w.heap.size + 1 + 1) (nm := w.heap.size + 1) (Z := fun b => b = w.heap.size + 1) (HC2.out.cell 0) ⟨by omega, by omega⟩ rfl)
    have HRR : Hid (RunR L U stepS (fun _ _ => true) (fun s => s.length ≤ 1000000000) n [] [(x, [])] [] names) := by have := HR.out; rw [HXX.out] at this; exact this
    clear k0 k1 k2 k3 k4 k5 k6 kf n0
    go_wp2_with fail
    refine (rows_calls (L := L) (U := U) (t := x) (n := n) (S := fun b => b < w1.heap.size ∧ b ≠ w.heap.size + 1) (cs := [.int .i64 x.kd, .string x.nm, .int .i64 x.n, .bool x.fl, .slice B1 x.ns.length d1, .slice B2 x.ms.length d2, .slice B3 x.ks.length d3]) HDEP.out (H.out.below HX2.out) HU.out HDC.out HDK.out (fun b hb => ⟨by have := hb.1; omega, hb.2⟩) (fun b hb => by omega) rfl (fun b hb => by have := H.out.old b hb; omega) (by simp) HMC.out (by omega) HRR.out).mono ?_
    rintro e w4 ⟨rfl, hm4, hb4⟩
    have hz4 := hb4.size
    have HM4 := Lib.hid hm4
    have HX4 : Hid (Below w.heap.size w w4) := HX2.out.trans (hb4.below (fun i _ e => by omega) (by omega))
    have hmc4 : w4.cell? ⟨w.heap.size + 1 + 1, 0, none⟩ = some (.map (some (w.heap.size + 1))) := (World.cell?_of_block (a := ⟨w.heap.size + 1 + 1, 0, none⟩) (hb4.block (w.heap.size + 1 + 1) (by omega) (by omega))).trans hmc
    have HT4 : Hid (Blk w4 w.heap.size 26 #[.int .i64 t.kd, .string t.nm, .int .i64 t.n, .bool t.fl, .slice A1 t.ns.length c1, .slice A2 t.ms.length c2, .slice A3 t.ks.length c3]) := (hb4.block _ (by omega) (by omega)).trans (HB0.out.below HXC.out hl0)
    have hcl4 : w.heap.size + 1 + 1 < w4.heap.size := by omega
    have hlen : sn.length ≤ 9223372036854775807 := by omega
    clear hm4 hb4 p0 p1 p2 p3 p4 p5 p6 pf hmc HDEP HC2 HMC HDC
    go_wp2_with fail
    refine (keys_calls _ _).mono ?_
    rintro e w5 ⟨rfl, rfl⟩
    go_wp2_with fail
    refine (sortedNames_calls HM4.out HO.out (by omega)).mono ?_
    rintro e w6 ⟨vn, rfl, hown, hb6⟩
    obtain ⟨A8, c8, rfl⟩ := own_form hown
    have hz6 := hb6.size
    simp at hz6
    have HX6 : Hid (Below w4.heap.size w4 w6) := (below_al _ _).trans (hb6.mono (by omega))
    have HOWN := Lib.hid hown
    clear hown hb6
    go_wp2_with fail
    go_loopg [8, 37] sn.length (fun m s8 i wr => ∃ (j : Nat) (A9 : Option Addr) (c9 : Nat) (x9 : List Value), m = sn.length - j ∧ j ≤ sn.length ∧ i = .int .i64 j ∧ s8 = .slice A9 (setN fnd df (sn.take j)).length c9 ∧
      Hid (wr.ownsRow w6.heap.size 89 9 (.slice A9 (setN fnd df (sn.take j)).length c9) (setN fnd df (sn.take j)).length x9) ∧ Hid (Below w6.heap.size w6 wr))
    case atStart => exact ⟨0, none, 0, [], by simp, by omega, rfl, rfl, World.ownsRow_nil _ _ _ _, Below.refl _ _⟩
    case round =>
      obtain ⟨j, A9, c9, x9, rfl, hj, rfl, rfl, HO9, HB⟩ := hrel
      have hzr := HB.out.size
      have HXR : Hid (Below w.heap.size w wr) := HX4.out.trans ((HX6.out.trans (HB.out.mono HX6.out.size)).mono (by omega))
      by_cases hlt : j < sn.length
      · have hrow : Row wr (fun b => b < wr.heap.size) 1 (.slice A8 sn.length c8) sn.length (sn.map .string) := Row.of_own (own_below HOWN.out HB.out) fun b hb => by have := (HOWN.out.lt b hb).2; omega
        obtain ⟨h1, A, cap, hsl, h2, h3, h0, h4⟩ := hrow
        obtain ⟨b, o, rfl, hSb, hcc⟩ := h4 (by omega)
        simp only [Value.slice.injEq] at hsl
        obtain ⟨rfl, -, rfl⟩ := hsl
        obtain ⟨s, hs⟩ : ∃ s, sn[j] = s := ⟨_, rfl⟩
        have q0 : wr.cell? ⟨b, o + j, none⟩ = some (.string s) := hcc j _ (by rw [List.getElem?_map, List.getElem?_eq_getElem hlt, hs]; rfl)
        have hbl : b < wr.heap.size := hSb
        have hsm : s ∈ sn := hs ▸ List.getElem_mem hlt
        have HTK : Hid (sn.take (j + 1) = sn.take j ++ [s]) := by rw [← hs]; exact List.take_succ_eq_append_getElem hlt
        obtain ⟨mf, rf, hrf, hff⟩ := HF.out s hsm
        rw [HXX.out, HDF.out] at hrf
        have HRF : Hid (RunR L U (stepL s (lookedP U t).2) (contL s (lookedP U t).2) (fun s => s = []) mf [] [((lookedP U t).1, [])] [] rf) := by rw [HXX.out, HDF.out]; exact hrf
        have HFF := Lib.hid hff
        have hj3 : (j : Int) < (sn.length : Int) := by omega
        obtain ⟨k0, k1, k2, k3, k4, k5, k6, kf⟩ := ((HT4.out.below HX6.out (by omega)).below HB.out (by omega)).cells7
        have hwr : w.heap.size < wr.heap.size := by omega
        have HSL : Hid ((setN fnd df (sn.take j)).length ≤ 1000000) := by
          have h1 := List.length_filter_le (keepN fnd df) (sn.take j)
          rw [List.length_take] at h1
          exact Lib.hid (by unfold setN; omega)
        clear h1 h2 h3 h0 h4 hcc hSb hsm hs hrf hff
        go_wp2_with fail
        refine (lookup_calls (L := L) (U := U) (S := S) (Z := fun _ => False) (t := t) (cs := [.int .i64 t.kd, .string t.nm, .int .i64 t.n, .bool t.fl, .slice A1 t.ns.length c1, .slice A2 t.ms.length c2, .slice A3 t.ks.length c3]) (name := s) (n := mf) (r := rf) (H.out.below HXR.out) HU.out (HT.out.keep (SameOn.of_below HXR.out HS.out) fun _ h => h) HK.out (fun b hb => ⟨by have := HS.out b hb; omega, fun e => e⟩) (fun b hb => hb.elim) HRF.out).mono ?_
        rintro e w8 ⟨fs, rfl, hfd, hb8⟩
        obtain ⟨f, hf⟩ : ∃ f, (foundP rf).getD zeroF = f := ⟨_, rfl⟩
        obtain ⟨ok, hok⟩ : ∃ ok, (foundP rf).isSome = ok := ⟨_, rfl⟩
        rw [hf] at hfd
        rw [hok]
        obtain ⟨F1, f1, F2, f2, F3, f3, F4, f4, rfl, -⟩ := hfd.forms
        obtain ⟨pp, hpe⟩ : ∃ pp, f.p = pp := ⟨_, rfl⟩
        rw [hpe] at hfd ⊢
        have HKN : Hid (keepN fnd df s = (ok && (!(f.kd == 7) && (df || !pp)))) := by
          unfold keepN
          rw [← HFF.out, ← hok, ← hpe, ← hf]
          cases foundP rf with
          | none => exact rfl
          | some y => exact rfl
        have hz8 := hb8.size
        have HBF : Hid (Below w6.heap.size w6 (w8.alloc (.cells #[.int .i64 f.kd, .string f.ow, .int .i64 f.ty.kd, .string f.ty.nm, .int .i64 f.ty.n, .bool f.ty.fl, .slice F1 f.ty.ns.length f1, .slice F2 f.ty.ms.length f2, .slice F3 f.ty.ks.length f3, .slice F4 f.pa.length f4, .bool pp, .bool f.df] 58))) := (HB.out.trans (hb8.mono (by omega))).alloc (by omega) _
        have HO9 : Hid ((w8.alloc (.cells #[.int .i64 f.kd, .string f.ow, .int .i64 f.ty.kd, .string f.ty.nm, .int .i64 f.ty.n, .bool f.ty.fl, .slice F1 f.ty.ns.length f1, .slice F2 f.ty.ms.length f2, .slice F3 f.ty.ks.length f3, .slice F4 f.pa.length f4, .bool pp, .bool f.df] 58)).ownsRow w6.heap.size 89 9 (.slice A9 (setN fnd df (sn.take j)).length c9) (setN fnd df (sn.take j)).length x9) := own_below (own_below HO9.out hb8) (below_al _ _)
        have HEQ0 : Hid (setN fnd df (sn.take (j + 1)) = setN fnd df (sn.take j) ++ (if keepN fnd df s = true then [s] else [])) := by
          rw [HTK.out]
          unfold setN
          rw [List.filter_append]
          cases hk : keepN fnd df s <;> simp [hk, Hid]
        clear hfd hb8 hf hok hpe q0 k0 k1 k2 k3 k4 k5 k6 kf
        cases hkp : keepN fnd df s with
        | false =>
          have HEQ : Hid (setN fnd df (sn.take (j + 1)) = setN fnd df (sn.take j)) := by rw [HEQ0.out, hkp]; simp [Hid]
          have hcase := keep_no ok df pp f.kd (HKN.out.symm.trans hkp)
          clear hkp HEQ0
          rcases hcase with rfl | ⟨rfl, h7⟩ | ⟨rfl, h7, rfl, rfl⟩
          · go_wp2_with fail
            go_roundg (sn.length - (j + 1))
            case measure => omega
            case rel => exact ⟨j + 1, A9, c9, x9, rfl, by omega, by go_num, by rw [HEQ.out], by rw [HEQ.out]; exact HO9, HBF⟩
          · go_wp2_with fail
            go_roundg (sn.length - (j + 1))
            case measure => omega
            case rel => exact ⟨j + 1, A9, c9, x9, rfl, by omega, by go_num, by rw [HEQ.out], by rw [HEQ.out]; exact HO9, HBF⟩
          · go_wp2_with fail
            go_roundg (sn.length - (j + 1))
            case measure => omega
            case rel => exact ⟨j + 1, A9, c9, x9, rfl, by omega, by go_num, by rw [HEQ.out], by rw [HEQ.out]; exact HO9, HBF⟩
        | true =>
          have HEQ : Hid (setN fnd df (sn.take (j + 1)) = setN fnd df (sn.take j) ++ [s]) := by rw [HEQ0.out, hkp]; simp [Hid]
          obtain ⟨rfl, h7, hcase⟩ := keep_yes ok df pp f.kd (HKN.out.symm.trans hkp)
          obtain ⟨i0, hi, hz0, hz1', hz2'⟩ := info_parts info_method
          clear hkp HEQ0 HKN
          rcases hcase with rfl | ⟨rfl, rfl⟩
          · go_wp2_with (at_builtin; refine wpList_append_row _ rfl _ _ 41 rfl w6.heap.size 89 i0 _ 9 136 Try.underlying41 hi hz0 hz1' hz2' rfl (by omega) (.slice A9 (setN fnd true (sn.take j)).length c9) (setN fnd true (sn.take j)).length x9 rfl ?c1 (fun b => b = w8.heap.size + 1) (.slice (some ⟨w8.heap.size + 1, 0, none⟩) 1 1) 1 [.string s, .bool pp, .int .i64 f.ty.kd, .string f.ty.nm, .int .i64 f.ty.n, .bool f.ty.fl, .slice F1 f.ty.ns.length f1, .slice F2 f.ty.ms.length f2, .slice F3 f.ty.ks.length f3] rfl ?c2 ?c3 ?c4 ?c5 ?c6 ?_)
            case c1 => exact own_below HO9.out (below_al _ _)
            case c2 => simpa using row_lit (w8.alloc (.cells #[.int .i64 f.kd, .string f.ow, .int .i64 f.ty.kd, .string f.ty.nm, .int .i64 f.ty.n, .bool f.ty.fl, .slice F1 f.ty.ns.length f1, .slice F2 f.ty.ms.length f2, .slice F3 f.ty.ks.length f3, .slice F4 f.pa.length f4, .bool pp, .bool f.df] 58)) 89 (size := 9) (cs := #[.string s, .bool pp, .int .i64 f.ty.kd, .string f.ty.nm, .int .i64 f.ty.n, .bool f.ty.fl, .slice F1 f.ty.ns.length f1, .slice F2 f.ty.ms.length f2, .slice F3 f.ty.ks.length f3]) 1 rfl (by unfold maxLen; omega)
            case c3 =>
              intro u hu
              simp only [List.mem_cons, List.not_mem_nil, or_false] at hu
              rcases hu with rfl | rfl | rfl | rfl | rfl | rfl | rfl | rfl | rfl <;> rfl
            case c4 => have := HSL.out; unfold maxLen; omega
            case c5 => have := HSL.out; omega
            case c6 => have := HBF.out.size; simp at this; simp; omega
            intro v' w9 hown hg hnil hat
            have HO10 : Hid (w9.ownsRow w6.heap.size 89 9 v' (setN fnd true (sn.take (j + 1))).length (x9 ++ [.string s, .bool pp, .int .i64 f.ty.kd, .string f.ty.nm, .int .i64 f.ty.n, .bool f.ty.fl, .slice F1 f.ty.ns.length f1, .slice F2 f.ty.ms.length f2, .slice F3 f.ty.ks.length f3])) := by rw [HEQ.out, List.length_append]; exact hown
            have HB10 : Hid (Below w6.heap.size w6 w9) := (HBF.out.alloc HBF.out.size _).trans ((But.of_grown (X := fun b => (Value.slice A9 (setN fnd true (sn.take j)).length c9).ownBlock = some b) hg fun b hb => hb).below (fun i _ e => (HO9.out.lt i e).1) (by have := HBF.out.size; simp at this; simp; omega))
            obtain ⟨A10, c10, rfl⟩ := own_form HO10.out
            clear hown hg hnil hat hi hz0 hz1' hz2'
            go_wp2_with fail
            go_roundg (sn.length - (j + 1))
            case measure => omega
            case rel => exact ⟨j + 1, A10, c10, _, rfl, by omega, by go_num, rfl, HO10, HB10⟩
          · go_wp2_with (at_builtin; refine wpList_append_row _ rfl _ _ 41 rfl w6.heap.size 89 i0 _ 9 136 Try.underlying41 hi hz0 hz1' hz2' rfl (by omega) (.slice A9 (setN fnd false (sn.take j)).length c9) (setN fnd false (sn.take j)).length x9 rfl ?c1 (fun b => b = w8.heap.size + 1) (.slice (some ⟨w8.heap.size + 1, 0, none⟩) 1 1) 1 [.string s, .bool false, .int .i64 f.ty.kd, .string f.ty.nm, .int .i64 f.ty.n, .bool f.ty.fl, .slice F1 f.ty.ns.length f1, .slice F2 f.ty.ms.length f2, .slice F3 f.ty.ks.length f3] rfl ?c2 ?c3 ?c4 ?c5 ?c6 ?_)
            case c1 => exact own_below HO9.out (below_al _ _)
            case c2 => simpa using row_lit (w8.alloc (.cells #[.int .i64 f.kd, .string f.ow, .int .i64 f.ty.kd, .string f.ty.nm, .int .i64 f.ty.n, .bool f.ty.fl, .slice F1 f.ty.ns.length f1, .slice F2 f.ty.ms.length f2, .slice F3 f.ty.ks.length f3, .slice F4 f.pa.length f4, .bool false, .bool f.df] 58)) 89 (size := 9) (cs := #[.string s, .bool false, .int .i64 f.ty.kd, .string f.ty.nm, .int .i64 f.ty.n, .bool f.ty.fl, .slice F1 f.ty.ns.length f1, .slice F2 f.ty.ms.length f2, .slice F3 f.ty.ks.length f3]) 1 rfl (by unfold maxLen; omega)
            case c3 =>
              intro u hu
              simp only [List.mem_cons, List.not_mem_nil, or_false] at hu
              rcases hu with rfl | rfl | rfl | rfl | rfl | rfl | rfl | rfl | rfl <;> rfl
            case c4 => have := HSL.out; unfold maxLen; omega
            case c5 => have := HSL.out; omega
            case c6 => have := HBF.out.size; simp at this; simp; omega
            intro v' w9 hown hg hnil hat
            have HO10 : Hid (w9.ownsRow w6.heap.size 89 9 v' (setN fnd false (sn.take (j + 1))).length (x9 ++ [.string s, .bool false, .int .i64 f.ty.kd, .string f.ty.nm, .int .i64 f.ty.n, .bool f.ty.fl, .slice F1 f.ty.ns.length f1, .slice F2 f.ty.ms.length f2, .slice F3 f.ty.ks.length f3])) := by rw [HEQ.out, List.length_append]; exact hown
            have HB10 : Hid (Below w6.heap.size w6 w9) := (HBF.out.alloc HBF.out.size _).trans ((But.of_grown (X := fun b => (Value.slice A9 (setN fnd false (sn.take j)).length c9).ownBlock = some b) hg fun b hb => hb).below (fun i _ e => (HO9.out.lt i e).1) (by have := HBF.out.size; simp at this; simp; omega))
            obtain ⟨A10, c10, rfl⟩ := own_form HO10.out
            clear hown hg hnil hat hi hz0 hz1' hz2'
            go_wp2_with fail
            go_roundg (sn.length - (j + 1))
            case measure => omega
            case rel => exact ⟨j + 1, A10, c10, _, rfl, by omega, by go_num, rfl, HO10, HB10⟩
      · obtain rfl : j = sn.length := by omega
        rw [List.take_of_length_le (Nat.le_refl _)] at HO9 ⊢
        have HBX : Hid (Below w.heap.size w wr) := HXR
        clear hlt hj
        go_wp2_with fail
        go_ret
        exact ⟨A9, c9, by rw [HDF.out]; rfl, HBX.out⟩
end Go.Proofs.Ytanhdklaponekaa
