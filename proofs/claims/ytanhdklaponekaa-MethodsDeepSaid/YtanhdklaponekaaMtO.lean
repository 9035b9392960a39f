/- types.New: the walk, where it makes a world. -/
import Derived.Test.YtanhdklaponekaaMtN
import Derived.Test.YtanhdklaponekaaMapPut
namespace Go.Proofs.Ytanhdklaponekaa
open Go Go.RowKit

/-- what New asks for -/
structure Fit (L : List Nd) : Prop where
  ok : ∀ d ∈ L, d.ok
  len : L.length ≤ 1000000
  nd : (L.map (·.nm)).Nodup
  circ : ∀ d ∈ L, ∃ n, circP L d.nm n false
  un : ∀ d ∈ L, everyB (knownB L) d.un = true
  sig : ∀ d ∈ L, ∀ m ∈ d.ms, everyB (knownB L) m.sig = true

/-- the world that is made: the map's block w.heap.size, and the three behind it -/
structure NwE (w wr : World) : Prop where
  t : Blk wr (w.heap.size + 1) 85 #[.map (some w.heap.size)]
  g : Blk wr (w.heap.size + 1 + 1) 77 #[.pointer (some ⟨w.heap.size + 1, 0, none⟩)]
  v : Blk wr (w.heap.size + 1 + 1 + 1) 40 #[.pointer (some ⟨w.heap.size + 1 + 1, 0, none⟩)]
  below : Below w.heap.size w wr
theorem NwE.but {w w1 w2 : World} (h : NwE w w1) (hb : But (fun b => b = w.heap.size) w1 w2) : NwE w w2 := by
  have hz := h.v.lt
  exact ⟨(hb.block _ (by omega) (by omega)).trans h.t, (hb.block _ (by omega) (by omega)).trans h.g, (hb.block _ (by omega) (by omega)).trans h.v, h.below.trans (hb.below (fun i _ e => by omega) (by omega))⟩
theorem NwE.made (w : World) : NwE w ((((w.alloc (.map #[] 0)).alloc (.cells #[.map (some w.heap.size)] 85)).alloc (.cells #[.pointer (some ⟨w.heap.size + 1, 0, none⟩)] 77)).alloc (.cells #[.pointer (some ⟨w.heap.size + 1 + 1, 0, none⟩)] 40)) := by
  refine ⟨?_, ?_, ?_, (((below_al _ _).alloc (by simp) _).alloc (by simp; omega) _).alloc (by simp; omega) _⟩
  · have := ((Blk.new (w.alloc (.map #[] 0)) 85 #[.map (some w.heap.size)]).alloc (.cells #[.pointer (some ⟨w.heap.size + 1, 0, none⟩)] 77)).alloc (.cells #[.pointer (some ⟨w.heap.size + 1 + 1, 0, none⟩)] 40)
    simpa using this
  · have := (Blk.new ((w.alloc (.map #[] 0)).alloc (.cells #[.map (some w.heap.size)] 85)) 77 #[.pointer (some ⟨w.heap.size + 1, 0, none⟩)]).alloc (.cells #[.pointer (some ⟨w.heap.size + 1 + 1, 0, none⟩)] 40)
    simpa using this
  · have := Blk.new (((w.alloc (.map #[] 0)).alloc (.cells #[.map (some w.heap.size)] 85)).alloc (.cells #[.pointer (some ⟨w.heap.size + 1, 0, none⟩)] 77)) 40 #[.pointer (some ⟨w.heap.size + 1 + 1, 0, none⟩)]
    simpa using this
theorem NwE.lt {w wr : World} (h : NwE w wr) : w.heap.size + 1 + 1 + 1 < wr.heap.size := h.v.lt

theorem NwE.wc {w wr : World} {S : Nat → Prop} {L : List Nd} (h : NwE w wr) (ht : TabR wr S w.heap.size L) (hS : Old S w) (hok : ∀ d ∈ L, d.ok) : WC wr (fun b => S b ∨ (w.heap.size ≤ b ∧ b < w.heap.size + 4)) (w.heap.size + 1 + 1) L := by
  have hl := h.lt
  refine ⟨⟨.inr (by omega), w.heap.size + 1, w.heap.size, .inr (by omega), h.g.cell 0, h.t.cell 0, .inr (by omega), ht.keep rfl (SameOn.refl _ _) fun b hb => .inl hb⟩, fun b hb => ?_, hok⟩
  rcases hb with hb | hb
  · have := hS b hb; omega
  · omega

theorem NwE.wc2 {w wr : World} {S : Nat → Prop} {L : List Nd} (h : NwE w wr) (ht : TabR wr S w.heap.size L) (hS : Old S wr) (hok : ∀ d ∈ L, d.ok) : WC wr (fun b => S b ∨ (w.heap.size ≤ b ∧ b < w.heap.size + 4)) (w.heap.size + 1 + 1) L := by
  have hl := h.lt
  refine ⟨⟨.inr (by omega), w.heap.size + 1, w.heap.size, .inr (by omega), h.g.cell 0, h.t.cell 0, .inr (by omega), ht.keep rfl (SameOn.refl _ _) fun b hb => .inl hb⟩, fun b hb => ?_, hok⟩
  rcases hb with hb | hb
  · exact hS b hb
  · omega
theorem key_str {key : Value} {kl : Lit} (h : keyOf Try.prog 9 key = some kl) : ∃ x, key = .string x ∧ kl = keyS x := by
  cases key <;> simp [keyOf, Try.underlying9, mapKey] at h
  exact ⟨_, rfl, h.2.symm⟩
theorem ranges_same {H : Type} {P : Program} {k : TypeId} {R : Value → Option (DataW H × List MemPlace)} {w w' : World} {b r n : Nat} {D : DataW H} {left : Lit → Bool} {cnt : Nat} (h : w.ranges P k R b r n D left cnt) (e1 : w'.heap[b]? = w.heap[b]?) (e2 : w'.heap[r]? = w.heap[r]?) : w'.ranges P k R b r n D left cnt := by
  obtain ⟨es, clock, since, seen, c0, hb, F, hs, hD, hr, rest⟩ := h
  exact ⟨es, clock, since, seen, c0, e1.trans hb, F, hs, hD, e2.trans hr, rest⟩
theorem ranges_lt {H : Type} {P : Program} {k : TypeId} {R : Value → Option (DataW H × List MemPlace)} {w : World} {b r n : Nat} {D : DataW H} {left : Lit → Bool} {cnt : Nat} (h : w.ranges P k R b r n D left cnt) : b < w.heap.size ∧ r < w.heap.size := by
  obtain ⟨es, clock, since, seen, c0, hb, F, hs, hD, hr, rest⟩ := h
  exact ⟨(Array.getElem?_eq_some_iff.1 hb).1, (Array.getElem?_eq_some_iff.1 hr).1⟩

theorem has_put_mono {D : DataW Value} {z k : Lit} {d : DataW Value} (h : Maps.has D z = true) (hm : Maps.IsMap D) (hk : WideAt.IsKeyLit k) : Maps.has (D.put k d) z = true := by
  by_cases e : z = k
  · subst e; exact Maps.has_put_same hm hk _
  · rw [Maps.has_put_other e]; exact h

set_option maxHeartbeats 8000000 in
set_option maxRecDepth 100000 in
theorem new_calls {L : List Nd} {w : World} {S : Nat → Prop} {v : Value} (h : RowNd w S v L) (hS : Old S w) (hf : Fit L) :
    Calls Try.prog 31 #[v] w fun e w' => ∃ g, e = .returned (.tuple #[.pointer (some ⟨g, 0, none⟩), .int .i64 0]) ∧ WC w' (fun b => S b ∨ New w w' b) g L ∧ Below w.heap.size w w' := by
  obtain ⟨A, c, rfl, hlen⟩ := h.form
  obtain ⟨xs, hrow, hall⟩ := h
  have HROW := Lib.hid hrow
  have HALL := Lib.hid hall
  have HS := Lib.hid hS
  have HF := Lib.hid hf
  have hmm := mm_named
  have hmf : ∀ (fn : Fn) (first cap : Array Value) (w : World), (Instr.makeFunc fn first cap).run Try.prog w = .ok (.func fn first cap) w := fun _ _ _ _ => rfl
  clear hrow hall hS hf
  go_enter Try.func31, Try.ntmps31
  go_wp2_with fail
  have HW4 : Hid (NwE w ((((w.alloc (.map #[] 0)).alloc (.cells #[.map (some w.heap.size)] 85)).alloc (.cells #[.pointer (some ⟨w.heap.size + 1, 0, none⟩)] 77)).alloc (.cells #[.pointer (some ⟨w.heap.size + 1 + 1, 0, none⟩)] 40))) := NwE.made w
  have HM4 : Hid (((((w.alloc (.map #[] 0)).alloc (.cells #[.map (some w.heap.size)] 85)).alloc (.cells #[.pointer (some ⟨w.heap.size + 1, 0, none⟩)] 77)).alloc (.cells #[.pointer (some ⟨w.heap.size + 1 + 1, 0, none⟩)] 40)).ownsMap Try.prog 9 heldE w.heap.size 0 (.map [])) := by
    have h1 := World.ownsMap_made w Try.prog 9 heldE
    have h2 := ownsMap_same h1 (Below.heap_alloc _ (.cells #[.map (some w.heap.size)] 85) _ h1.lt)
    have h3 := ownsMap_same h2 (Below.heap_alloc _ (.cells #[.pointer (some ⟨w.heap.size + 1, 0, none⟩)] 77) _ h2.lt)
    exact ownsMap_same h3 (Below.heap_alloc _ (.cells #[.pointer (some ⟨w.heap.size + 1 + 1, 0, none⟩)] 40) _ h3.lt)
  obtain ⟨w4, hw4⟩ : ∃ w4, w4 = ((((w.alloc (.map #[] 0)).alloc (.cells #[.map (some w.heap.size)] 85)).alloc (.cells #[.pointer (some ⟨w.heap.size + 1, 0, none⟩)] 77)).alloc (.cells #[.pointer (some ⟨w.heap.size + 1 + 1, 0, none⟩)] 40)) := ⟨_, rfl⟩
  rw [← hw4] at HW4 HM4 ⊢
  clear hw4 hmm
  go_loopg [25] L.length (fun dd i wr => ∃ (j : Nat) (D : DataW Value), dd = L.length - j ∧ j ≤ L.length ∧ i = .int .i64 j ∧ Hid (wr.ownsMap Try.prog 9 heldE w.heap.size j D) ∧ Hid (TabD wr S (L.take j) D) ∧ Hid (NwE w wr))
  case atStart => exact ⟨0, .map [], by simp, by omega, rfl, HM4, TabD.nil _ _, HW4⟩
  case round =>
    obtain ⟨j, D, rfl, hj, rfl, HM, HT, HW⟩ := hrel
    have hlt3 := HW.out.lt
    have hsm : SameOn S w wr := SameOn.of_below HW.out.below HS.out
    by_cases hlt : j < L.length
    · obtain ⟨b, o, cap, B1, d1, B2, d2, B3, d3, B4, d4, hv, hSb, hnd, -, -, q0, q1, q2, q3, q4, q5, q6, q7, q8⟩ := ndAt (HROW.out.keep hsm) (HALL.out.imp fun _ _ k => k.keep hsm (fun _ h => h)) hlt
      cases hv
      have hbl : b < wr.heap.size := Nat.lt_of_lt_of_le (HS.out b hSb) HW.out.below.size
      have hbn : b < w.heap.size := HS.out b hSb
      obtain ⟨d, hd⟩ : ∃ d, L[j] = d := ⟨_, rfl⟩
      rw [hd] at hnd q0 q1 q2 q3 q4 q5 q6 q7 q8
      have HND := Lib.hid hnd
      have hdm : d ∈ L := hd ▸ List.getElem_mem hlt
      have HDK := Lib.hid (HF.out.ok d hdm)
      have HLK : Hid (look (L.take j) d.nm = none) := by rw [← hd]; exact look_take HF.out.nd hlt
      have HTK : Hid (L.take (j + 1) = L.take j ++ [d]) := by rw [← hd]; exact List.take_succ_eq_append_getElem hlt
      have hj3 : (j : Int) < (L.length : Int) := by omega
      have htab : TabR wr S w.heap.size (L.take j) := HT.out.tab HM.out (by have := HF.out.len; unfold Lim; omega)
      obtain ⟨G1, g1, G2, g2, G3, g3, G4, g4, -, hlk, -⟩ := htab.looks HDK.out.1
      rw [HLK.out] at hlk
      have hmbl : w.heap.size < wr.heap.size := by omega
      have hl1 : ∀ o, _ := fun o => hlk (wr.alloc o).drew (Below.heap_alloc wr o _ hmbl)
      have hl2 : ∀ o o', _ := fun o o' => hlk ((wr.alloc o).alloc o').drew ((Below.heap_alloc (wr.alloc o) o' _ (by simp; omega)).trans (Below.heap_alloc wr o _ hmbl))
      have hv0 : wr.cell? ⟨w.heap.size + 1 + 1 + 1, 0, none⟩ = _ := HW.out.v.cell 0
      have hg0 : wr.cell? ⟨w.heap.size + 1 + 1, 0, none⟩ = _ := HW.out.g.cell 0
      have ht0 : wr.cell? ⟨w.heap.size + 1, 0, none⟩ = _ := HW.out.t.cell 0
      have hgl : w.heap.size + 1 + 1 < wr.heap.size := by omega
      have htl : w.heap.size + 1 < wr.heap.size := by omega
      simp only [Option.isSome_none] at hl1 hl2
      clear hsm hSb hnd hdm htab hlk hd
      go_wp2_with fail
      go_region
      all_goals
        go_wp2_with fail
        obtain ⟨w2, hw2⟩ : ∃ w2, w2 = ((wr.alloc (.cells #[.string d.nm, .int .i64 d.un.kd, .string d.un.nm, .int .i64 d.un.n, .bool d.un.fl, .slice B1 d.un.ns.length d1, .slice B2 d.un.ms.length d2, .slice B3 d.un.ks.length d3, .slice B4 d.ms.length d4] 43)).alloc (.cells #[.string (lookD (L.take j) d.nm).nm, .int .i64 (lookD (L.take j) d.nm).un.kd, .string (lookD (L.take j) d.nm).un.nm, .int .i64 (lookD (L.take j) d.nm).un.n, .bool (lookD (L.take j) d.nm).un.fl, .slice G1 (lookD (L.take j) d.nm).un.ns.length g1, .slice G2 (lookD (L.take j) d.nm).un.ms.length g2, .slice G3 (lookD (L.take j) d.nm).un.ks.length g3, .slice G4 (lookD (L.take j) d.nm).ms.length g4] 43)).drew := ⟨_, rfl⟩
        rw [← hw2]
        have hb2 : Below wr.heap.size wr w2 := by rw [hw2]; exact ((below_al _ _).alloc (by simp) _).drew
        have HW2 := Lib.hid (HW.out.but (But.of_below (X := fun b => b = w.heap.size) hb2))
        have HM2 : Hid (w2.drew.ownsMap Try.prog 9 heldE w.heap.size j D) := ownsMap_same HM.out (hb2.block _ hmbl)
        have HT2 := Lib.hid (HT.out.keep (S' := S) (SameOn.of_below hb2 fun b hb => Nat.lt_of_lt_of_le (HS.out b hb) HW.out.below.size) (fun _ h => h))
        have HND2 : Hid (NdR w2 S d [.string d.nm, .int .i64 d.un.kd, .string d.un.nm, .int .i64 d.un.n, .bool d.un.fl, .slice B1 d.un.ns.length d1, .slice B2 d.un.ms.length d2, .slice B3 d.un.ks.length d3, .slice B4 d.ms.length d4]) := HND.out.keep (SameOn.of_below hb2 fun b hb => Nat.lt_of_lt_of_le (HS.out b hb) HW.out.below.size) (fun _ h => h)
        have hP : Blk w2 wr.heap.size 43 #[.string d.nm, .int .i64 d.un.kd, .string d.un.nm, .int .i64 d.un.n, .bool d.un.fl, .slice B1 d.un.ns.length d1, .slice B2 d.un.ms.length d2, .slice B3 d.un.ks.length d3, .slice B4 d.ms.length d4] := by rw [hw2]; exact (Blk.new wr _ _).alloc _
        obtain ⟨p0, p1, p2, p3, p4, p5, p6, p7, p8, pf⟩ := hP.cells9
        have hpl := hP.lt
        have hv2 : w2.cell? ⟨w.heap.size + 1 + 1 + 1, 0, none⟩ = _ := HW2.out.v.cell 0
        have hg2 : w2.cell? ⟨w.heap.size + 1 + 1, 0, none⟩ = _ := HW2.out.g.cell 0
        have ht2 : w2.cell? ⟨w.heap.size + 1, 0, none⟩ = _ := HW2.out.t.cell 0
        have hll2 := HW2.out.lt
        have hgl2 : w.heap.size + 1 + 1 < w2.heap.size := by omega
        have htl2 : w.heap.size + 1 < w2.heap.size := by omega
        obtain ⟨w5, hrun, ho5, hg5⟩ := HM2.out.update (t := 83) (e := 43) (Maps.string_keyed Try.underlying9) Try.underlying83 (by have := HF.out.len; unfold maxLen; omega) (key := .string d.nm) (val := .agg #[.string d.nm, .int .i64 d.un.kd, .string d.un.nm, .int .i64 d.un.n, .bool d.un.fl, .slice B1 d.un.ns.length d1, .slice B2 d.un.ms.length d2, .slice B3 d.un.ks.length d3, .slice B4 d.ms.length d4])
          (kl := keyS d.nm) (d := .held (.agg #[.string d.nm, .int .i64 d.un.kd, .string d.un.nm, .int .i64 d.un.n, .bool d.un.fl, .slice B1 d.un.ns.length d1, .slice B2 d.un.ms.length d2, .slice B3 d.un.ks.length d3, .slice B4 d.ms.length d4])) (ps := []) (WideMaps.keyOf_string_mk (s := d.nm) Try.underlying9 (by have := HDK.out.1; unfold Lim at this; unfold maxLen; omega)) rfl
        have HO5 := Lib.hid ho5
        have hbt5 : But (fun b => b = w.heap.size) w2 w5 := ((But.refl _ _).drew).trans (But.of_grown (X := fun b => b = w.heap.size) hg5 fun b hb => by simpa using hb.symm) fun _ _ h => h
        have HW5 := Lib.hid (HW2.out.but hbt5)
        have HT5 : Hid (TabD w5 S (L.take (j + 1)) (D.put (keyS d.nm) (.held (.agg #[.string d.nm, .int .i64 d.un.kd, .string d.un.nm, .int .i64 d.un.n, .bool d.un.fl, .slice B1 d.un.ns.length d1, .slice B2 d.un.ms.length d2, .slice B3 d.un.ks.length d3, .slice B4 d.ms.length d4])))) := by
          rw [HTK.out]
          have hss : SameOn S w2 w5 := hbt5.sameOn fun b hb => ⟨by have := HS.out b hb; omega, by have := HS.out b hb; omega⟩
          exact (HT2.out.keep hss (fun _ h => h)).snoc HLK.out (HND2.out.keep hss (fun _ h => h))
        clear hw2 hb2 hP ho5 hg5 hbt5 hl1 hl2 q0 q1 q2 q3 q4 q5 q6 q7 q8 hv0 hg0 ht0 HM2 HT2 HND2
        go_region
        all_goals
          go_wp2_with fail
          go_roundg (L.length - (j + 1))
          case measure => omega
          case rel => exact ⟨j + 1, _, rfl, by omega, by go_num, HO5, HT5, HW5⟩
    · obtain rfl : j = L.length := by omega
      rw [List.take_of_length_le (Nat.le_refl _)] at HT
      have HTR : Hid (TabR wr S w.heap.size L) := HT.out.tab HM.out (by have := HF.out.len; unfold Lim; omega)
      have HWC := Lib.hid (HW.out.wc HTR.out HS.out HF.out.ok)
      clear hsm HM4 HW4
      rename World => wA
      go_wp2_with fail
      go_loopg [56] L.length (fun dd i wr => ∃ (j : Nat), dd = L.length - j ∧ j ≤ L.length ∧ i = .int .i64 j ∧ Hid (Below wA.heap.size wA wr))
      case atStart => exact ⟨0, by simp, by omega, rfl, Below.refl _ _⟩
      case round =>
        obtain ⟨j, rfl, hj, rfl, HB⟩ := hrel
        have hzb := HB.out.size
        have hsm : SameOn S w wr := (SameOn.of_below HW.out.below HS.out).trans (SameOn.of_below HB.out (HS.out.below HW.out.below))
        by_cases hlt : j < L.length
        · obtain ⟨b, o, cap, B1, d1, B2, d2, B3, d3, B4, d4, hv, hSb, -, -, -, q0, q1, q2, q3, q4, q5, q6, q7, q8⟩ := ndAt (HROW.out.keep hsm) (HALL.out.imp fun _ _ k => k.keep hsm (fun _ h => h)) hlt
          cases hv
          obtain ⟨d, hd⟩ : ∃ d, L[j] = d := ⟨_, rfl⟩
          rw [hd] at q0 q1 q2 q3 q4 q5 q6 q7 q8
          have hdm : d ∈ L := hd ▸ List.getElem_mem hlt
          have HDK := Lib.hid (HF.out.ok d hdm)
          obtain ⟨nf, hnf⟩ := HF.out.circ d hdm
          have HNF := Lib.hid hnf
          have hj3 : (j : Int) < (L.length : Int) := by omega
          have hbn : b < w.heap.size := HS.out b hSb
          have hbl : b < wr.heap.size := by have := HW.out.below.size; omega
          have HWR := Lib.hid (HWC.out.below HB.out)
          have hv0 : wr.cell? ⟨w.heap.size + 1 + 1 + 1, 0, none⟩ = _ := (cell_below HB.out hlt3).trans (HW.out.v.cell 0)
          have hvl : w.heap.size + 1 + 1 + 1 < wr.heap.size := by omega
          clear hsm hSb hdm hd hnf
          go_wp2_with fail
          refine (circle_calls (L := L) (name := d.nm) (n := nf) (r := false) (HWR.out.alloc _) HDK.out.1 HNF.out).mono ?_
          rintro e w2 ⟨rfl, hb2⟩
          have HB2 : Hid (Below wA.heap.size wA w2) := (HB.out.alloc hzb _).trans (hb2.mono (by simp; omega))
          clear hb2
          go_wp2_with fail
          go_roundg (L.length - (j + 1))
          case measure => omega
          case rel => exact ⟨j + 1, rfl, by omega, by go_num, HB2⟩
        · obtain rfl : j = L.length := by omega
          clear hsm
          rename World => wC
          have hvC : wC.cell? ⟨w.heap.size + 1 + 1 + 1, 0, none⟩ = some (.pointer (some ⟨w.heap.size + 1 + 1, 0, none⟩)) := (cell_below HB.out hlt3).trans (HW.out.v.cell 0)
          have HWCC := Lib.hid (HWC.out.below HB.out)
          have HBC := Lib.hid HB.out
          have hvlC : w.heap.size + 1 + 1 + 1 < wC.heap.size := by omega
          have HIS : Hid (IsF 64 #[.pointer (some ⟨w.heap.size + 1 + 1 + 1, 0, none⟩)] (knownB L) wC) := by
            refine ⟨enters_known, fun wx S' t cs hbx htx hSx hok => ?_⟩
            exact known_calls (HWCC.out.below hbx) ((cell_below hbx hvlC).trans hvC) (by have := hbx.size; omega) htx hok
          clear HB hzb hj hlt hvC
          go_wp2_with fail
          go_loopg [68] L.length (fun dd i wr => ∃ (j : Nat), dd = L.length - j ∧ j ≤ L.length ∧ i = .int .i64 j ∧ Hid (Below wC.heap.size wC wr))
          case atStart => exact ⟨0, by simp, by omega, rfl, Below.refl _ _⟩
          case round =>
            obtain ⟨j, rfl, hj, rfl, HB⟩ := hrel
            have hzb := HB.out.size
            have HSR : Hid (SameOn S w wr) := (SameOn.of_below HW.out.below HS.out).trans ((SameOn.of_below HBC.out (HS.out.below HW.out.below)).trans (SameOn.of_below HB.out ((HS.out.below HW.out.below).below HBC.out)))
            by_cases hlt : j < L.length
            · obtain ⟨b, o, cap, B1, d1, B2, d2, B3, d3, B4, d4, hv, hSb, -, hty, hme, q0, q1, q2, q3, q4, q5, q6, q7, q8⟩ := ndAt (HROW.out.keep HSR.out) (HALL.out.imp fun _ _ k => k.keep HSR.out (fun _ h => h)) hlt
              cases hv
              obtain ⟨d, hd⟩ : ∃ d, L[j] = d := ⟨_, rfl⟩
              rw [hd] at hty hme q0 q1 q2 q3 q4 q5 q6 q7 q8
              have hdm : d ∈ L := hd ▸ List.getElem_mem hlt
              have HDK := Lib.hid (HF.out.ok d hdm)
              have HEU := Lib.hid (HF.out.un d hdm)
              have HES := Lib.hid (HF.out.sig d hdm)
              obtain ⟨mx, hm1, hm2⟩ := hme
              have HTY := Lib.hid hty
              have HM1 := Lib.hid hm1
              have HM2 := Lib.hid hm2
              have hj3 : (j : Int) < (L.length : Int) := by omega
              have hbn : b < w.heap.size := HS.out b hSb
              have hbl : b < wr.heap.size := by have := HW.out.below.size; have := HBC.out.size; omega
              have hwr : w.heap.size ≤ wr.heap.size := by have := HW.out.below.size; have := HBC.out.size; omega
              have HSO : Hid (Old S wr) := fun b hb => Nat.lt_of_lt_of_le (HS.out b hb) hwr
              clear hSb hdm hd hty hm1 hm2
              go_wp2_with fail
              refine (every_calls HIS.out d.un (wr.alloc _) S [.int .i64 d.un.kd, .string d.un.nm, .int .i64 d.un.n, .bool d.un.fl, .slice B1 d.un.ns.length d1, .slice B2 d.un.ms.length d2, .slice B3 d.un.ks.length d3] (HB.out.alloc hzb _) (HTY.out.keep (SameOn.of_below (below_al _ _) HSO.out) (fun _ h => h)) (HSO.out.alloc _) HDK.out.2.1).mono ?_
              rintro e w2 ⟨rfl, hb2⟩
              have hz2 := hb2.size
              simp at hz2
              rw [HEU.out]
              have HB2 : Hid (Below wC.heap.size wC w2) := (HB.out.alloc hzb _).trans (hb2.mono (by simp; omega))
              have HX2 : Hid (Below wr.heap.size wr w2) := (below_al _ _).trans (hb2.mono (by simp))
              have hP : Blk w2 wr.heap.size 43 #[.string d.nm, .int .i64 d.un.kd, .string d.un.nm, .int .i64 d.un.n, .bool d.un.fl, .slice B1 d.un.ns.length d1, .slice B2 d.un.ms.length d2, .slice B3 d.un.ks.length d3, .slice B4 d.ms.length d4] := (Blk.new wr _ _).below hb2 (by simp)
              obtain ⟨p0, p1, p2, p3, p4, p5, p6, p7, p8, pf⟩ := hP.cells9
              have hpl := hP.lt
              have hml : d.ms.length ≤ 9223372036854775807 := by obtain ⟨_, _, _, hh⟩ := HM1.out.form; exact hh
              clear hb2 hP q0 q1 q2 q3 q4 q5 q6 q7 q8
              rename World => wD
              go_wp2_with fail
              go_loopg [14, 79] d.ms.length (fun dd s14 i wx => ∃ (k : Nat), dd = d.ms.length - k ∧ k ≤ d.ms.length ∧ i = .int .i64 k ∧ s14 = .bool true ∧ Hid (Below wD.heap.size wD wx))
              case atStart => exact ⟨0, by simp, by omega, rfl, rfl, Below.refl _ _⟩
              case round =>
                obtain ⟨k, rfl, hk, rfl, rfl, HBX⟩ := hrel
                have hzx := HBX.out.size
                have HSX : Hid (SameOn S _ wr) := (SameOn.of_below HX2.out HSO.out).trans (SameOn.of_below HBX.out (HSO.out.below HX2.out))
                have HSOX : Hid (Old S wr) := (HSO.out.below HX2.out).below HBX.out
                by_cases hltk : k < d.ms.length
                · obtain ⟨bm, om, capm, E1, e1, E2, e2, E3, e3, hvm, hSbm, htym, r0, r1, r2, r3, r4, r5, r6, r7, r8⟩ := meAt (HM1.out.keep HSX.out) (HM2.out.imp fun _ _ kk => kk.keep HSX.out (fun _ h => h)) hltk
                  cases hvm
                  obtain ⟨m, hm⟩ : ∃ m, d.ms[k] = m := ⟨_, rfl⟩
                  rw [hm] at htym r0 r1 r2 r3 r4 r5 r6 r7 r8
                  have hmm : m ∈ d.ms := hm ▸ List.getElem_mem hltk
                  have HMK : Hid m.sig.ok := (HDK.out.2.2.2 m hmm).2
                  have HME : Hid (everyB (knownB L) m.sig = true) := HES.out m hmm
                  have HTYM := Lib.hid htym
                  have hk3 : (k : Int) < (d.ms.length : Int) := by omega
                  have hbml : bm < wr.heap.size := HSOX.out bm hSbm
                  clear hSbm htym hmm hm
                  go_wp2_with fail
                  refine (every_calls HIS.out m.sig (wr.alloc _) S [.int .i64 m.sig.kd, .string m.sig.nm, .int .i64 m.sig.n, .bool m.sig.fl, .slice E1 m.sig.ns.length e1, .slice E2 m.sig.ms.length e2, .slice E3 m.sig.ks.length e3] ((HB2.out.trans (HBX.out.mono HB2.out.size)).alloc (by have := HB2.out.size; omega) _) (HTYM.out.keep (SameOn.of_below (below_al _ _) HSOX.out) (fun _ h => h)) (HSOX.out.alloc _) HMK.out).mono ?_
                  rintro e w3 ⟨rfl, hb3⟩
                  rw [HME.out]
                  have HB3 : Hid (Below wD.heap.size wD w3) := (HBX.out.alloc hzx _).trans (hb3.mono (by simp; omega))
                  clear hb3
                  go_wp2_with fail
                  go_roundg (d.ms.length - (k + 1))
                  case measure => omega
                  case rel => exact ⟨k + 1, rfl, by omega, by go_num, rfl, HB3⟩
                · obtain rfl : k = d.ms.length := by omega
                  have HBN : Hid (Below wC.heap.size wC wr) := HB2.out.trans (HBX.out.mono HB2.out.size)
                  go_wp2_with fail
                  go_roundg (L.length - (j + 1))
                  case measure => omega
                  case rel => exact ⟨j + 1, rfl, by omega, by go_num, HBN⟩
            · obtain rfl : j = L.length := by omega
              rename World => wE
              have HBE : Hid (Below wA.heap.size wA wE) := HBC.out.trans (HB.out.mono HBC.out.size)
              have HWE := Lib.hid (HW.out.but (But.of_below (X := fun b => b = w.heap.size) HBE.out))
              have HME : Hid (wE.ownsMap Try.prog 9 heldE w.heap.size L.length _) := ownsMap_same HM.out (HBE.out.block _ HM.out.lt)
              have HTE := Lib.hid (HT.out.keep (S' := S) (SameOn.of_below HBE.out (HS.out.below HW.out.below)) (fun _ h => h))
              have hv2 : wE.cell? ⟨w.heap.size + 1 + 1 + 1, 0, none⟩ = _ := HWE.out.v.cell 0
              have hg2 : wE.cell? ⟨w.heap.size + 1 + 1, 0, none⟩ = _ := HWE.out.g.cell 0
              have ht2 : wE.cell? ⟨w.heap.size + 1, 0, none⟩ = _ := HWE.out.t.cell 0
              have hll2 := HWE.out.lt
              have hgl2 : w.heap.size + 1 + 1 < wE.heap.size := by omega
              have htl2 : w.heap.size + 1 < wE.heap.size := by omega
              clear HB hzb HSR hlt hj
              go_wp2_with (at_range; refine wpList_range_own _ rfl _ 83 rfl 9 43 (Maps.string_keyed Try.underlying9) Try.underlying83 heldE w.heap.size L.length _ rfl HME.out ?_)
              intro w0 hrg0 hg0 hs0
              have hbt0 : But (fun b => b = w.heap.size) wE w0 := But.of_grown hg0 fun b hb => by simp at hb
              have HW0 := Lib.hid (HWE.out.but hbt0)
              have HRG0 := Lib.hid hrg0
              have HT0 : Hid (TabD w0 (fun b => S b ∨ (wE.heap.size + 1 ≤ b ∧ b < w0.heap.size)) L _) := HTE.out.keep (hbt0.sameOn fun b hb => ⟨by have := HS.out b hb; omega, by have := HS.out b hb; omega⟩) fun b hb => .inl hb
              have HZ0 : Hid (wE.heap.size + 1 ≤ w0.heap.size) := by rw [hs0]; exact Nat.le_refl _
              clear hbt0 hrg0 hg0 hs0 hv2 hg2 ht2
              go_wp2_with fail
              go_loopg [] (Maps.size D) (fun dd wr => ∃ (D' : DataW Value) (left : Lit → Bool) (cnt : Nat), cnt = dd ∧ Hid (wr.ranges Try.prog 9 heldE w.heap.size wE.heap.size L.length D' left cnt) ∧
                Hid (TabD wr (fun b => S b ∨ (wE.heap.size + 1 ≤ b ∧ b < wr.heap.size)) L D') ∧ Hid (∀ z, left z = true → Maps.has D' z = true) ∧ Hid (NwE w wr) ∧ Hid (wE.heap.size + 1 ≤ wr.heap.size))
              case atStart => exact ⟨D, Maps.has D, Maps.size D, rfl, HRG0, HT0, fun _ h => h, HW0, HZ0⟩
              case round =>
                obtain ⟨D', left, cnt, rfl, HRG, HT', HLE, HW', HZ⟩ := hrel
                have hzw := HW'.out.lt
                go_wp2_with (at_next; refine wpList_next_ranges _ rfl _ rfl 9 (Maps.string_keyed Try.underlying9) heldE Value.string (fun v : Value => v) (fun key kl hk => by obtain ⟨x, e, _⟩ := key_str hk; exact ⟨x, e⟩) (fun v y _ => ⟨v, rfl⟩) w.heap.size wE.heap.size L.length D' left cnt rfl HRG.out ?_ ?_)
                · intro hc0 hl0
                  have hv2 : wr.cell? ⟨w.heap.size + 1 + 1 + 1, 0, none⟩ = _ := HW'.out.v.cell 0
                  have HFIN : Hid (WC wr (fun b => S b ∨ New w wr b) (w.heap.size + 1 + 1) L ∧ Below w.heap.size w wr) := by
                    have hzE := HWE.out.lt
                    have h1 := HW'.out.wc2 (HT'.out.tab HRG.out.owns (by have := HF.out.len; unfold Lim; omega)) (fun b hb => hb.elim (fun hb => by have := HS.out b hb; omega) (fun hb => hb.2)) HF.out.ok
                    refine ⟨⟨h1.wld.keep (SameOn.refl _ _) fun b hb => ?_, fun b hb => hb.elim (fun hb => by have := HS.out b hb; omega) (fun hb => hb.2), h1.ok⟩, HW'.out.below⟩
                    rcases hb with (hb | hb) | hb
                    · exact .inl hb
                    · exact .inr ⟨by omega, hb.2⟩
                    · exact .inr ⟨hb.1, by omega⟩
                  go_wp2_with fail
                  refine bodyPost_ret (v := .tuple #[.pointer (some ⟨w.heap.size + 1 + 1, 0, none⟩), .int .i64 0]) (by simp [results, Try.results31, go_sem]) rfl ⟨_, rfl, HFIN.out.1, HFIN.out.2⟩
                · intro x c' kl y y2 w' cnt' hkey hlk hv hat hrg hlt hgr hsz hen
                  obtain ⟨x', hx1, hx2⟩ := key_str hkey
                  simp only [Value.string.injEq] at hx1
                  subst hx1
                  subst hx2
                  obtain ⟨d, hd⟩ := has_look HT'.out (HLE.out _ hlk)
                  have hdm : d ∈ L := look_mem hd
                  have hnm := look_nm hd
                  have hxl : x.size ≤ Lim := hnm ▸ (HF.out.ok d hdm).1
                  have hld : lookD L x = d := by unfold lookD; rw [hd]; rfl
                  have hbt : But (fun b => b = wE.heap.size) wr w' := But.of_grown hgr fun b hb => by simpa using hb.symm
                  have hzE := HWE.out.lt
                  have HW1 : Hid (NwE w w') := by
                    have h := HW'.out
                    exact ⟨(hbt.block _ (by omega) (by omega)).trans h.t, (hbt.block _ (by omega) (by omega)).trans h.g, (hbt.block _ (by omega) (by omega)).trans h.v, h.below.trans (hbt.below (fun i _ e => by omega) (by omega))⟩
                  have HT1 : Hid (TabD w' (fun b => S b ∨ (wE.heap.size + 1 ≤ b ∧ b < w'.heap.size)) L D') := by
                    rw [hsz]
                    exact HT'.out.keep (hbt.sameOn fun b hb => hb.elim (fun hb => by have := HS.out b hb; omega) (fun hb => by omega)) (fun _ h => h)
                  have HRG1 := Lib.hid hrg
                  have HKEY := Lib.hid hkey
                  have HD := Lib.hid hd
                  have HXL := Lib.hid hxl
                  have HHAS := Lib.hid (HLE.out _ hlk)
                  have hlt' := hlt
                  have HLT := Lib.hid hlt
                  have HWCX : Hid (WC w' (fun b => (S b ∨ (wE.heap.size + 1 ≤ b ∧ b < w'.heap.size)) ∨ (w.heap.size ≤ b ∧ b < w.heap.size + 4)) (w.heap.size + 1 + 1) L) := HW1.out.wc2 (HT1.out.tab HRG1.out.owns (by have := HF.out.len; unfold Lim; omega)) (fun b hb => hb.elim (fun hb => by have := HS.out b hb; omega) (fun hb => hb.2)) HF.out.ok
                  have hv2 : w'.cell? ⟨w.heap.size + 1 + 1 + 1, 0, none⟩ = some (.pointer (some ⟨w.heap.size + 1 + 1, 0, none⟩)) := HW1.out.v.cell 0
                  have hg2 : w'.cell? ⟨w.heap.size + 1 + 1, 0, none⟩ = some (.pointer (some ⟨w.heap.size + 1, 0, none⟩)) := HW1.out.g.cell 0
                  have ht2 : w'.cell? ⟨w.heap.size + 1, 0, none⟩ = some (.map (some w.heap.size)) := HW1.out.t.cell 0
                  have hl1 := HW1.out.lt
                  have hl2 : w.heap.size + 1 + 1 < w'.heap.size := by omega
                  have hl3 : w.heap.size + 1 < w'.heap.size := by omega
                  have HZ1 : Hid (wE.heap.size + 1 ≤ w'.heap.size) := by rw [hsz]; exact HZ
                  obtain ⟨ok, hok⟩ : ∃ ok, (look L x).isSome = ok := ⟨_, rfl⟩
                  have HLD := Lib.hid hld
                  have HOKE := Lib.hid hok
                  have HCALL : Hid (Calls Try.prog 23 #[.pointer (some ⟨w.heap.size + 1 + 1, 0, none⟩), .string x] w'.drew (NdRes w'.drew d ok)) := by
                    have h1 := wnamed_calls (L := L) (nm := x) (HWCX.out.same (w' := w'.drew) (SameOn.dr (SameOn.refl _ _)) (Nat.le_refl _)) HXL.out
                    rw [hld, hok] at h1
                    exact h1
                  have STEP : Hid (∀ w3 dcs, NdR w3 (New w'.drew w3) d dcs → Below w'.drew.heap.size w'.drew w3 → ∃ B1 d1 B2 d2 B3 d3 B4 d4 w5, dcs = [.string d.nm, .int .i64 d.un.kd, .string d.un.nm, .int .i64 d.un.n, .bool d.un.fl, .slice B1 d.un.ns.length d1, .slice B2 d.un.ms.length d2, .slice B3 d.un.ks.length d3, .slice B4 d.ms.length d4] ∧
                      (Instr.mapUpdate 83 (.map (some w.heap.size)) (.string x) (.agg #[.string d.nm, .int .i64 d.un.kd, .string d.un.nm, .int .i64 d.un.n, .bool d.un.fl, .slice B1 d.un.ns.length d1, .slice B2 d.un.ms.length d2, .slice B3 d.un.ks.length d3, .slice B4 d.ms.length d4])).run Try.prog w3 = .ok () w5 ∧ NwE w w3 ∧ NwE w w5 ∧
                      w5.ranges Try.prog 9 heldE w.heap.size wE.heap.size L.length (D'.put (keyS x) (.held (.agg #[.string d.nm, .int .i64 d.un.kd, .string d.un.nm, .int .i64 d.un.n, .bool d.un.fl, .slice B1 d.un.ns.length d1, .slice B2 d.un.ms.length d2, .slice B3 d.un.ks.length d3, .slice B4 d.ms.length d4]))) (fun z => left z && !z.sameKey (keyS x)) cnt' ∧
                      TabD w5 (fun b => S b ∨ (wE.heap.size + 1 ≤ b ∧ b < w5.heap.size)) L (D'.put (keyS x) (.held (.agg #[.string d.nm, .int .i64 d.un.kd, .string d.un.nm, .int .i64 d.un.n, .bool d.un.fl, .slice B1 d.un.ns.length d1, .slice B2 d.un.ms.length d2, .slice B3 d.un.ks.length d3, .slice B4 d.ms.length d4]))) ∧ wE.heap.size + 1 ≤ w5.heap.size) := by
                    intro w3 dcs hnd hb3
                    obtain ⟨B1, d1, B2, d2, B3, d3, B4, d4, rfl, -, -⟩ := hnd.forms
                    have hb3' : Below w'.heap.size w' w3 := ((Below.refl _ _).drew).trans hb3
                    have HW3 := HW1.out.but (But.of_below (X := fun b => b = w.heap.size) hb3')
                    have hrl := ranges_lt HRG1.out
                    have hrg3 := ranges_same HRG1.out (hb3'.block _ hrl.1) (hb3'.block _ hrl.2)
                    obtain ⟨w5, hrun, hrg5, hturn⟩ := ranges_store (t := 83) (e := 43) (key := .string x) (val := .agg #[.string d.nm, .int .i64 d.un.kd, .string d.un.nm, .int .i64 d.un.n, .bool d.un.fl, .slice B1 d.un.ns.length d1, .slice B2 d.un.ms.length d2, .slice B3 d.un.ks.length d3, .slice B4 d.ms.length d4]) (d := .held (.agg #[.string d.nm, .int .i64 d.un.kd, .string d.un.nm, .int .i64 d.un.n, .bool d.un.fl, .slice B1 d.un.ns.length d1, .slice B2 d.un.ms.length d2, .slice B3 d.un.ks.length d3, .slice B4 d.ms.length d4])) (ps := []) hrg3 (Maps.string_keyed Try.underlying9) Try.underlying83 HKEY.out rfl HHAS.out
                    have hz3 := hb3'.size
                    have hbt5 : But (fun b => b = w.heap.size) w3 w5 := But.of_grown hturn.grown fun b hb => by simpa using hb.symm
                    have hz5 := hbt5.size
                    have hz1 := HZ1.out
                    have hl0 := HWE.out.lt
                    refine ⟨B1, d1, B2, d2, B3, d3, B4, d4, w5, rfl, hrun, HW3, HW3.but hbt5, hrg5, ?_, by omega⟩
                    refine TabD.again (((HT1.out.keep (S' := fun b => S b ∨ (wE.heap.size + 1 ≤ b ∧ b < w'.heap.size)) (SameOn.of_below hb3' fun b hb => hb.elim (fun hb => by have := HS.out b hb; omega) (fun hb => hb.2)) (fun _ h => h)).keep (hbt5.sameOn fun b hb => hb.elim (fun hb => by have := HS.out b hb; omega) (fun hb => by omega)) fun b hb => hb.elim .inl fun hb => .inr (by omega))) HD.out ?_
                    refine hnd.keep (hbt5.sameOn fun b hb => ⟨hb.2, fun e => ?_⟩) fun b hb => .inr ?_
                    · have h1 : w'.heap.size ≤ b := hb.1
                      omega
                    · have h1 : w'.heap.size ≤ b := hb.1
                      have h2 := hb.2
                      omega
                  clear hkey hlk hv hat hrg hgr hsz hd hdm hnm hxl hld hok hbt hlt hlt'
                  go_wp2_with fail
                  go_region_with
                    (first
                      | (go_at_call 23
                         refine HCALL.out.mono ?_
                         rintro e w3 ⟨dcs, rfl, hnd, hb3⟩
                         obtain ⟨B1, d1, B2, d2, B3, d3, B4, d4, w5, rfl, hrun, hw3, hw5, hrg5, ht5, hz5⟩ := STEP.out w3 dcs hnd hb3
                         have HW5 := Lib.hid hw5
                         have HRG5 := Lib.hid hrg5
                         have HT5 := Lib.hid ht5
                         have HZ5 := Lib.hid hz5
                         have hv3 : w3.cell? ⟨w.heap.size + 1 + 1 + 1, 0, none⟩ = some (.pointer (some ⟨w.heap.size + 1 + 1, 0, none⟩)) := hw3.v.cell 0
                         have hg3 : w3.cell? ⟨w.heap.size + 1 + 1, 0, none⟩ = some (.pointer (some ⟨w.heap.size + 1, 0, none⟩)) := hw3.g.cell 0
                         have ht3 : w3.cell? ⟨w.heap.size + 1, 0, none⟩ = some (.map (some w.heap.size)) := hw3.t.cell 0
                         have hl31 := hw3.lt
                         have hl32 : w.heap.size + 1 + 1 < w3.heap.size := by omega
                         have hl33 : w.heap.size + 1 < w3.heap.size := by omega
                         clear hnd hb3 hw3 hw5 hrg5 ht5 hz5)
                      | fail)
                  all_goals
                    go_wp2_with fail
                    go_roundg cnt'
                    case measure => exact HLT.out
                    case rel => exact ⟨_, _, cnt', rfl, HRG5, HT5, (fun z hz => by
                      simp only [Bool.and_eq_true] at hz
                      exact has_put_mono (HLE.out z hz.1) HT'.out.1 (keyS_lit _)), HW5, HZ5⟩
end Go.Proofs.Ytanhdklaponekaa
