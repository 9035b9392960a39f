/- types.owns: a list of types in memory of its own; own and owns together. -/
import Derived.Test.YtanhdklaponekaaOwn
namespace Go.Proofs.Ytanhdklaponekaa
open Go Go.RowKit

theorem TRes.forms {w w' : World} {t : T} {e : Ending} (h : TRes w t e w') : ∃ A1 c1 A2 c2 A3 c3,
    e = .returned (.agg #[.int .i64 t.kd, .string t.nm, .int .i64 t.n, .bool t.fl, .slice A1 t.ns.length c1, .slice A2 t.ms.length c2, .slice A3 t.ks.length c3]) ∧
    TyR w' (New w w') t [.int .i64 t.kd, .string t.nm, .int .i64 t.n, .bool t.fl, .slice A1 t.ns.length c1, .slice A2 t.ms.length c2, .slice A3 t.ks.length c3] ∧ Below w.heap.size w w' := by
  obtain ⟨cs, rfl, h, hb⟩ := h
  obtain ⟨A1, c1, A2, c2, A3, c3, rfl, _⟩ := h.forms
  exact ⟨A1, c1, A2, c2, A3, c3, rfl, h, hb⟩

theorem row_lit (w : World) (e : TypeId) {size : Nat} {cs : Array Value} (n : Nat) (hs : cs.size = n * size) (hm : n ≤ maxLen) :
    Row (w.alloc (.cells cs e)) (fun b => b = w.heap.size) size (.slice (some ⟨w.heap.size, 0, none⟩) n n) n cs.toList :=
  Row.of_own (World.ownsRow_lit (base := w.heap.size) w cs n (Nat.le_refl _) hm hs) (fun b hb => by simpa [Value.ownBlock, eq_comm] using hb)
theorem one7 {k n : Int} {nm : ByteArray} {f : Bool} {A1 A2 A3 : Option Addr} {l1 c1 l2 c2 l3 c3 : Nat} :
    ∀ u ∈ [Value.int .i64 k, .string nm, .int .i64 n, .bool f, .slice A1 l1 c1, .slice A2 l2 c2, .slice A3 l3 c3], u.oneCell' = true := by
  intro u h
  simp only [List.mem_cons, List.not_mem_nil, or_false] at h
  rcases h with rfl | rfl | rfl | rfl | rfl | rfl | rfl <;> rfl

/-- One round: what was there, and the new element. -/
theorem owns_step {base : Nat} {E : TypeId} {wr W w1 w2 : World} {v v' : Value} {ts : List T} {t : T} {n : Nat} {xs cs : List Value} {o : Obj}
    (hbase : base ≤ wr.heap.size) (ho : wr.ownsRow base E 7 v n xs) (ht : TysR wr (fun b => (base ≤ b ∧ b < wr.heap.size) ∧ v.ownBlock ≠ some b) ts xs) (hbW : Below wr.heap.size wr W)
    (hc : TyR w1 (New W w1) t cs) (hb1 : Below W.heap.size W w1) (hg : (w1.alloc o).grownBy w2 v.ownBlock)
    (hat : v'.ownBlock = v.ownBlock ∨ v'.ownBlock = some (w1.heap.size + 1)) :
    TysR w2 (fun b => (base ≤ b ∧ b < w2.heap.size) ∧ v'.ownBlock ≠ some b) (ts ++ [t]) (xs ++ cs) := by
  have hzW := hbW.size
  have hz1 := hb1.size
  have hz2 := hg.size
  simp at hz2
  have hl := ho.lt
  have hne : ∀ b, b < w1.heap.size → v.ownBlock ≠ some b → v'.ownBlock ≠ some b := by
    intro b hb h
    rcases hat with e | e <;> rw [e]
    · exact h
    · simp; omega
  have hs2 : ∀ b, b < w1.heap.size → v.ownBlock ≠ some b → w2.heap[b]? = w1.heap[b]? := fun b hb h =>
    (hg.block b (by simp; omega) (fun e => h e.symm)).trans (Below.heap_alloc w1 o b hb)
  refine (ht.keep (w' := w2) (fun b hb => ?_) (fun b hb => ?_)).append (TysR.one (hc.keep (w' := w2) (fun b hb => ?_) (fun b hb => ?_)))
  · exact (hs2 b (by omega) hb.2).trans ((hb1.block b (by omega)).trans (hbW.block b hb.1.2))
  · exact ⟨⟨hb.1.1, by omega⟩, hne b (by omega) hb.2⟩
  · have h1 := hb.1
    have h2 := hb.2
    exact hs2 b hb.2 (fun e => by have := (hl b e).2; omega)
  · have h1 := hb.1
    have h2 := hb.2
    exact ⟨⟨by omega, by omega⟩, hne b hb.2 (fun e => by have := (hl b e).2; omega)⟩

set_option maxHeartbeats 1000000 in
theorem owns_any (N : Nat) (ih : ∀ (t : T) (cs : List Value) (w : World) (S : Nat → Prop), t.sz < N → t.ok → TyR w S t cs → Old S w → Calls Try.prog 41 #[.agg cs.toArray] w (TRes w t)) :
    ∀ (ts : List T) (v : Value) (w : World) (S : Nat → Prop), T.szL ts < N + 1 → T.okL ts → ts.length * 112 ≤ Lim → RowT w S v ts → Old S w → Calls Try.prog 39 #[v] w (TsRes 26 w ts) := by
  intro ts v w S hN hok hlim hr hS
  obtain ⟨i0, hi, iz0, iz1, iz2⟩ := info_parts info_types
  obtain ⟨A, cap, rfl, hlen⟩ := hr.form
  have HS := Lib.hid hS
  have HR := Lib.hid hr
  have HO := Lib.hid hok
  have IH := Lib.hid ih
  have HSZ := Lib.hid hN
  have hlim2 : ts.length ≤ 1256584717458 := by unfold Lim at hlim; omega
  clear hr hS hok ih hN hlim
  go_enter Try.func39, Try.ntmps39
  go_wp2_with fail
  go_loopg [3, 8] ts.length (fun m u i wr => ∃ (j : Nat) (xs : List Value) (v : Value), m = ts.length - j ∧ j ≤ ts.length ∧ i = .int .i64 j ∧ v = u ∧ Hid (wr.ownsRow w.heap.size 26 7 v j xs) ∧
    Hid (TysR wr (fun b => (w.heap.size ≤ b ∧ b < wr.heap.size) ∧ v.ownBlock ≠ some b) (ts.take j) xs) ∧ Below w.heap.size w wr)
  case atStart => exact ⟨0, [], _, by simp, by omega, rfl, rfl, World.ownsRow_nil _ _ _ _, by simp [Hid, TysR], Below.refl _ _⟩
  case round =>
    obtain ⟨j, xs, v, rfl, hj, rfl, rfl, HOW, HTY, hb⟩ := hrel
    by_cases hlt : j < ts.length
    · have hr := HR.out.keep (SameOn.of_below hb HS.out) (fun _ h => h)
      obtain ⟨b, o, c, A1, c1, A2, c2, A3, c3, hv, hSb, ⟨g0, g1, g2, g3, g4, g5, g6⟩, hkr⟩ := hr.at_ hlt
      cases hv
      have HKR := Lib.hid hkr
      have hzr := hb.size
      clear hkr hr
      go_wp2_with fail
      refine (IH.out ts[j] [.int .i64 ts[j].kd, .string ts[j].nm, .int .i64 ts[j].n, .bool ts[j].fl, .slice A1 ts[j].ns.length c1, .slice A2 ts[j].ms.length c2, .slice A3 ts[j].ks.length c3] _ S (by have := HSZ.out; have := szL_mem hlt; omega) (okL_at HO.out hlt) (HKR.out.keep ?s1 (fun _ h => h)) ?s2).mono ?_
      case s1 => exact (SameOn.refl _ _).alloc (HS.out.below hb) _
      case s2 => exact (HS.out.below hb).below ((Below.refl _ _).alloc (Nat.le_refl _) _)
      rintro e w1 h1
      obtain ⟨B1, d1, B2, d2, B3, d3, rfl, ht1, hb1⟩ := h1.forms
      have HT1 := Lib.hid ht1
      have hz1 := hb1.size
      simp at hz1
      have hbw1 : Below w.heap.size w w1 := (hb.alloc hzr _).trans (hb1.mono (by simp; omega))
      have HBR := Lib.hid ((Below.refl wr.heap.size wr).alloc (Nat.le_refl _) (.cells #[.int .i64 ts[j].kd, .string ts[j].nm, .int .i64 ts[j].n, .bool ts[j].fl, .slice A1 ts[j].ns.length c1, .slice A2 ts[j].ms.length c2, .slice A3 ts[j].ks.length c3] 26))
      have HB1 := Lib.hid hb1
      clear h1 ht1 hb1
      go_wp2_with (at_builtin; (refine wpList_append_row _ rfl _ _ 24 rfl w.heap.size 26 i0 _ 7 112 Try.underlying24 hi iz0 iz1 iz2 rfl (by omega) v j xs rfl ?c1 (fun b => b = w1.heap.size) (.slice (some ⟨w1.heap.size, 0, none⟩) 1 1) 1 [.int .i64 ts[j].kd, .string ts[j].nm, .int .i64 ts[j].n, .bool ts[j].fl, .slice B1 ts[j].ns.length d1, .slice B2 ts[j].ms.length d2, .slice B3 ts[j].ks.length d3] rfl ?c2 ?c3 ?c4 ?c5 ?c6 ?_))
      case c1 => exact (own_below (own_below HOW.out HBR.out) HB1.out).alloc _
      case c2 => exact row_lit w1 _ 1 rfl (by unfold maxLen; omega)
      case c3 => exact one7
      case c4 => unfold maxLen; omega
      case c5 => omega
      case c6 => simp; have := hbw1.size; omega
      intro v' w2 hown hg hnil hat
      have hstep := owns_step hzr HOW.out HTY.out HBR.out HT1.out HB1.out hg hat
      rw [← List.take_succ_eq_append_getElem hlt] at hstep
      have HST := Lib.hid hstep
      have HON := Lib.hid hown
      have hbn : Below w.heap.size w w2 := (hbw1.alloc hbw1.size _).grown hg (by simp; have := hbw1.size; omega) (fun k hk => (HOW.out.lt k hk).1)
      clear hstep hown hg hnil hat
      go_wp2_with fail
      go_roundg (ts.length - (j + 1))
      case measure => omega
      case rel => exact ⟨j + 1, _, _, rfl, by omega, by go_num, rfl, HON, HST, hbn⟩
    · obtain rfl : j = ts.length := by omega
      have hty := HTY.out
      rw [List.take_of_length_le (Nat.le_refl _)] at hty
      have HT := Lib.hid hty
      clear hty hlt hj HTY
      go_wp2_with fail
      go_ret
      exact ⟨v, xs, rfl, HOW.out, HT.out, hb⟩

theorem own_both (N : Nat) :
    (∀ (t : T) (cs : List Value) (w : World) (S : Nat → Prop), t.sz < N → t.ok → TyR w S t cs → Old S w → Calls Try.prog 41 #[.agg cs.toArray] w (TRes w t)) ∧
    (∀ (ts : List T) (v : Value) (w : World) (S : Nat → Prop), T.szL ts < N → T.okL ts → ts.length * 112 ≤ Lim → RowT w S v ts → Old S w → Calls Try.prog 39 #[v] w (TsRes 26 w ts)) := by
  induction N with
  | zero => exact ⟨fun t cs w S h => absurd h (by omega), fun ts v w S h => absurd h (by omega)⟩
  | succ N ih => exact ⟨own_any N ih.2, owns_any N ih.1⟩
theorem own_calls {t : T} {cs : List Value} {w : World} {S : Nat → Prop} (ho : t.ok) (h : TyR w S t cs) (hS : Old S w) : Calls Try.prog 41 #[.agg cs.toArray] w (TRes w t) :=
  (own_both (t.sz + 1)).1 t cs w S (Nat.lt_succ_self _) ho h hS
theorem owns_calls {ts : List T} {v : Value} {w : World} {S : Nat → Prop} (ho : T.okL ts) (hl : ts.length * 112 ≤ Lim) (h : RowT w S v ts) (hS : Old S w) : Calls Try.prog 39 #[v] w (TsRes 26 w ts) :=
  (own_both (T.szL ts + 1)).2 ts v w S (Nat.lt_succ_self _) ho hl h hS
end Go.Proofs.Ytanhdklaponekaa
