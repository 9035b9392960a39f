/- methods.rows: the walk. -/
import Derived.Test.YtanhdklaponekaaMtR
import Derived.Laws.EntriesVeiled
import Derived.Maps.OwnOps
namespace Go.Proofs.Ytanhdklaponekaa
open Go Go.RowKit

/-- what a thing of a row is, for the machine -/
def FOk (x : ByteArray × Fd) : Prop := x.1.size ≤ Lim ∧ x.2.ty.ok
/-- what is done with a row: the closure F with its captured variables; it writes block ob alone -/
structure Dep {σ : Type} (F : FuncId) (caps : Array Value) (ob : Nat) (Z : Nat → Prop) (w0 : World) (Cont : σ → Prop) (Out : σ → World → Prop) (step : σ → List (ByteArray × Fd) → σ) (cont : σ → List (ByteArray × Fd) → Bool) : Prop where
  enters : ∀ args w, (callFunc F args).run Try.prog w = .ok (.enter F args) w
  run : ∀ (s : σ) (w : World) (S : Nat → Prop) (v : Value) (l : List (ByteArray × Fd)) (xs : List Value), Cont s → Out s w → But (fun b => b = ob) w0 w → Row w S 13 v l.length xs → AllR (NfR w S) l xs → (∀ b, S b → b < w.heap.size ∧ ¬ Z b) → l.length ≤ 1000000000 → (∀ x ∈ l, FOk x) →
    Calls Try.prog F (#[v] ++ caps) w fun e w' => e = .returned (.bool (cont s l)) ∧ Out (step s l) w' ∧ But (fun b => b = ob) w w'
  stay : ∀ (s : σ) (w w' : World), Cont s → Out s w → w'.heap[ob]? = w.heap[ob]? → w.heap.size ≤ w'.heap.size → Out s w'

theorem mm_int (w : World) : (Instr.makeMap 101 none).run Try.prog w = .ok (.map (some w.heap.size)) (w.alloc (.map #[] 0)) := by kernel_rfl
theorem zero_int (w : World) : (zeroValue 3).run Try.prog w = .ok (.int .i64 0) w := by kernel_rfl
theorem metR_made (w : World) : MetR (w.alloc (.map #[] 0)) w.heap.size [] := ⟨.map [], World.ownsMap_made _ _ _ _, fun _ => ⟨rfl, rfl⟩⟩

theorem isMap_own {w : World} {H : Type} {k : TypeId} {R : Value → Option (DataW H × List MemPlace)} {b n : Nat} {D : DataW H} (h : w.ownsMap Try.prog k R b n D) : Maps.IsMap D := by
  obtain ⟨es, clock, hb, F, _, rfl⟩ := h
  exact ⟨_, rfl⟩
/-- a name is met -/
theorem wpList_met {w : World} {mb : Nat} {met : List ByteArray} {ops : Array Oper} {rest : List Oper} {o : Oper} {a : Act} {Q : Exit → Act → World → Prop} (hg : o.guard = none) (m x v : Operand) (hop : o.op = Op.mapUpdate 101 m x v)
    (h : MetR w mb met) {s : ByteArray} (hm : a.eval m = .map (some mb)) (hx : a.eval x = .string s) (hv : a.eval v = .int .i64 1) (hs : s.size ≤ Lim) (hn : met.length ≤ 1000000000)
    (hK : ∀ w', MetR w' mb (s :: met) → w.grownBy w' (some mb) → wpList Try.prog ops Q rest (a.put o.dst undef) w') : wpList Try.prog ops Q (o :: rest) a w := by
  obtain ⟨D, h1, h2⟩ := h
  refine wpList_mapUpdate_own w hg m x v 101 hop 9 3 (Maps.string_keyed Try.underlying9) Try.underlying101 (plainElem Try.prog 3) mb met.length D hm h1 (by unfold maxLen; omega) (.string s) (.int .i64 1) (keyS s) hx hv
    (WideMaps.keyOf_string_mk (s := s) Try.underlying9 (by unfold Lim at hs; unfold maxLen; omega)) (.lit (.int .i64 1)) [] (by simp [plainElem, Try.underlying3]; decide) fun w' g1 g2 => hK w' ⟨_, g1, fun s2 => ?_⟩ g2
  rw [inM_cons]
  by_cases e : s = s2
  · subst e
    rw [Maps.atKey_put_same (isMap_own h1) (by simp [keyS, WideAt.IsKeyLit]), Maps.has_put_same (isMap_own h1) (by simp [keyS, WideAt.IsKeyLit])]
    simp
  · rw [Maps.atKey_put_other (fun e2 => keyS_ne e e2.symm), Maps.has_put_other (fun e2 => keyS_ne e e2.symm), (h2 s2).1, (h2 s2).2]
    simp [e]
/-- a place among those of a row, cell by cell -/
theorem plAt {w : World} {S : Nat → Prop} {v : Value} {ps : List (T × List Int)} {xs : List Value} (h : Row w S 8 v ps.length xs) (ha : AllR (PlR w S) ps xs) {i : Nat} (hi : i < ps.length) :
    ∃ b o cap A1 c1 A2 c2 A3 c3 A4 c4, v = .slice (some ⟨b, o, none⟩) ps.length cap ∧ S b ∧
      PlR w S ps[i] [.int .i64 ps[i].1.kd, .string ps[i].1.nm, .int .i64 ps[i].1.n, .bool ps[i].1.fl, .slice A1 ps[i].1.ns.length c1, .slice A2 ps[i].1.ms.length c2, .slice A3 ps[i].1.ks.length c3, .slice A4 ps[i].2.length c4] ∧
      w.cell? ⟨b, o + i * 8, none⟩ = some (.int .i64 ps[i].1.kd) ∧ w.cell? ⟨b, o + i * 8 + 1, none⟩ = some (.string ps[i].1.nm) ∧ w.cell? ⟨b, o + i * 8 + 2, none⟩ = some (.int .i64 ps[i].1.n) ∧ w.cell? ⟨b, o + i * 8 + 3, none⟩ = some (.bool ps[i].1.fl) ∧
      w.cell? ⟨b, o + i * 8 + 4, none⟩ = some (.slice A1 ps[i].1.ns.length c1) ∧ w.cell? ⟨b, o + i * 8 + 5, none⟩ = some (.slice A2 ps[i].1.ms.length c2) ∧ w.cell? ⟨b, o + i * 8 + 6, none⟩ = some (.slice A3 ps[i].1.ks.length c3) ∧ w.cell? ⟨b, o + i * 8 + 7, none⟩ = some (.slice A4 ps[i].2.length c4) := by
  obtain ⟨b, o, cap, cs, hv, hSb, hm, hc⟩ := row_all_at h ha (k := 8) (fun _ _ h => h.len) hi
  have hm2 := hm
  obtain ⟨A1, c1, A2, c2, A3, c3, A4, c4, rfl, -⟩ := hm.forms
  exact ⟨b, o, cap, A1, c1, A2, c2, A3, c3, A4, c4, hv, hSb, hm2, hc 0 _ rfl, hc 1 _ rfl, hc 2 _ rfl, hc 3 _ rfl, hc 4 _ rfl, hc 5 _ rfl, hc 6 _ rfl, hc 7 _ rfl⟩

theorem okL_all : ∀ {l : List T}, T.okL l ↔ ∀ k ∈ l, k.ok
  | [] => by simp [T.okL]
  | t :: ts => by simp only [T.okL, List.mem_cons, forall_eq_or_imp]; rw [okL_all]
theorem kids_ok {u : T} (h : u.ok) : ∀ k ∈ u.ks, k.ok := by
  obtain ⟨k', nm, n, f, ns, ms, ks⟩ := u
  exact okL_all.1 h.2.2.2.2.2.2.2
theorem T0_ok : T0.ok := d0_ok.2.1
theorem kAt_ok {u : T} (h : u.ok) (i : Nat) : (kAt u i).ok := by
  unfold kAt
  cases hk : u.ks[i]? with
  | none => exact T0_ok
  | some k => exact kids_ok h k (List.mem_of_getElem? hk)
theorem stU_ok {L : List Nd} {U : T → T} (hL : ∀ d ∈ L, d.ok) (hU : UndF L U) {t : T} (h : t.ok) : (stU U t).ok := by
  have hu : ∀ {x : T}, x.ok → (U x).ok := fun {x} hx => by obtain ⟨n, hn⟩ := hU x; exact und_ok hL hx hn
  unfold stU
  split
  · split
    · exact hu h
    · rename_i k rest hk
      split
      · exact hu (kids_ok (hu h) k (by rw [hk]; simp))
      · exact hu h
  · exact hu h
theorem stN_ok {u : T} {pa : List Int} (h : u.ok) : ∀ i, ∀ q ∈ stN u pa i, q.1.ok
  | 0, q, hq => by simp [stN] at hq
  | i + 1, q, hq => by
    unfold stN at hq
    rcases List.mem_append.1 hq with hq | hq
    · exact stN_ok h i q hq
    · unfold stJ at hq
      split at hq
      · simp only [List.mem_cons, List.not_mem_nil, or_false] at hq
        rw [hq]
        exact kAt_ok h i
      · simp at hq

theorem nAt_ok {u : T} (h : u.ok) (i : Nat) : (nAt u i).size ≤ Lim := by
  unfold nAt
  cases hk : u.ns[i]? with
  | none => exact Nat.zero_le _
  | some k =>
    obtain ⟨k', nm, n, f, ns, ms, ks⟩ := u
    exact h.2.2.2.1 k (List.mem_of_getElem? hk)
theorem stF_ok {ow : ByteArray} {u : T} {pa : List Int} (h : u.ok) : ∀ i, ∀ x ∈ stF ow u pa i, FOk x
  | 0, x, hx => by simp [stF] at hx
  | i + 1, x, hx => by
    unfold stF at hx
    rcases List.mem_append.1 hx with hx | hx
    · exact stF_ok h i x hx
    · unfold stI at hx
      split at hx
      · simp only [List.mem_cons, List.not_mem_nil, or_false] at hx
        rw [hx]; exact ⟨nAt_ok h i, kAt_ok h i⟩
      · split at hx
        · simp only [List.mem_cons, List.not_mem_nil, or_false] at hx
          rw [hx]; exact ⟨nAt_ok h i, kAt_ok h i⟩
        · simp at hx
theorem stAll_ok {L : List Nd} {U : T → T} (hL : ∀ d ∈ L, d.ok) (hU : UndF L U) {p : T × List Int} (h : p.1.ok) : ∀ x ∈ stAll L U p, FOk x := by
  intro x hx
  unfold stAll at hx
  rcases List.mem_append.1 hx with hx | hx
  · unfold stM at hx
    obtain ⟨m, hm, rfl⟩ := List.mem_map.1 hx
    split at hm
    · exact (lookD_ok hL p.1.nm).2.2.2 m hm
    · simp at hm
  · exact stF_ok (stU_ok hL hU h) _ x hx
theorem rowAt_ok {L : List Nd} {U : T → T} (hL : ∀ d ∈ L, d.ok) (hU : UndF L U) {ps : List (T × List Int)} (hps : ∀ p ∈ ps, p.1.ok) {met : List ByteArray} : ∀ j, ∀ x ∈ (rowAt L U ps met j).row, FOk x
  | 0, x, hx => by simp [rowAt] at hx
  | j + 1, x, hx => by
    have hp : (pAt ps j).1.ok := by
      unfold pAt
      cases hk : ps[j]? with
      | none => exact T0_ok
      | some p => exact hps p (List.mem_of_getElem? hk)
    unfold rowAt at hx
    split at hx
    · exact rowAt_ok hL hU hps j x hx
    · rcases List.mem_append.1 hx with hx | hx
      · exact rowAt_ok hL hU hps j x hx
      · exact stAll_ok hL hU hp x hx

set_option maxHeartbeats 4000000 in
set_option maxRecDepth 100000 in
theorem rows_calls {σ : Type} {F : FuncId} {caps : Array Value} {ob : Nat} {Z : Nat → Prop} {Cont : σ → Prop} {Out : σ → World → Prop} {step : σ → List (ByteArray × Fd) → σ} {cont : σ → List (ByteArray × Fd) → Bool}
    {L : List Nd} {U : T → T} {g n : Nat} {w : World} {S Sw : Nat → Prop} {t : T} {cs : List Value} {s r : σ} (hd : Dep F caps ob Z w Cont Out step cont) (h : WC w Sw g L) (hU : UndF L U) (ht : TyR w S t cs) (hok : t.ok) (hS : ∀ b, S b → b < w.heap.size ∧ ¬ Z b) (hZ : ∀ b, Z b → b < w.heap.size) (hZo : Z ob)
    (hSw : ∀ b, Sw b → b ≠ ob) (hc : Cont s) (ho : Out s w) (hob : ob < w.heap.size) (hr : RunR L U step cont Cont n s [(t, [])] [] r) :
    Calls Try.prog 67 #[.pointer (some ⟨g, 0, none⟩), .agg cs.toArray, .func (.func F) #[] caps] w fun e w' => e = .returned (.tuple #[]) ∧ Out r w' ∧ But (fun b => b = ob) w w' := by
  obtain ⟨A1, c1, A2, c2, A3, c3, rfl, -⟩ := ht.forms
  have HD := Lib.hid hd
  have H := Lib.hid h
  have HU := Lib.hid hU
  have HT := Lib.hid ht
  have HK := Lib.hid hok
  have HS := Lib.hid hS
  have HSW := Lib.hid hSw
  have HC := Lib.hid hc
  have HO := Lib.hid ho
  have HR := Lib.hid hr
  have HZ := Lib.hid hZ
  clear hd h hU ht hok hS hSw hc ho hr hZ
  have hmm := mm_int
  go_enter Try.func67, Try.ntmps67
  go_wp2_with fail
  go_loopg [7] n (fun d s7 wr => ∃ (m : Nat) (s : σ) (ps : List (T × List Int)) (met : List ByteArray) (A7 : Option Addr) (c7 : Nat) (xp : List Value), m = d ∧ s7 = .slice A7 ps.length c7 ∧ Hid (RunR L U step cont Cont m s ps met r) ∧ Hid (Cont s) ∧ Hid (Out s wr) ∧
    Hid (Row wr (fun b => b < wr.heap.size ∧ b ≠ w.heap.size + 1 ∧ ¬ Z b) 8 (.slice A7 ps.length c7) ps.length xp) ∧ Hid (AllR (PlR wr (fun b => b < wr.heap.size ∧ b ≠ w.heap.size + 1 ∧ ¬ Z b)) ps xp) ∧ Hid (∀ p ∈ ps, p.1.ok) ∧
    Hid (MetR wr (w.heap.size + 1) met) ∧ Hid (But (fun b => b = ob) w wr))
  case atStart =>
    have hbl : Below w.heap.size w (((w.alloc (.cells #[.int .i64 t.kd, .string t.nm, .int .i64 t.n, .bool t.fl, .slice A1 t.ns.length c1, .slice A2 t.ms.length c2, .slice A3 t.ks.length c3] 26)).alloc (.map #[] 0)).alloc (.cells #[.int .i64 t.kd, .string t.nm, .int .i64 t.n, .bool t.fl, .slice A1 t.ns.length c1, .slice A2 t.ms.length c2, .slice A3 t.ks.length c3, .slice none 0 0] 107)) := ((below_al _ _).alloc (by simp) _).alloc (by simp; omega) _
    refine ⟨n, s, [(t, [])], [], some ⟨w.heap.size + 2, 0, none⟩, 1, [.int .i64 t.kd, .string t.nm, .int .i64 t.n, .bool t.fl, .slice A1 t.ns.length c1, .slice A2 t.ms.length c2, .slice A3 t.ks.length c3, .slice none 0 0], rfl, rfl, HR, HC, HD.out.stay s w _ HC.out HO.out (hbl.block ob hob) hbl.size, ?_, ?_, ?_, ?_, But.of_below hbl⟩
    · refine Row.more (S := fun b => b = w.heap.size + 2) (by simpa using row_lit ((w.alloc _).alloc _) 107 (size := 8) (cs := #[.int .i64 t.kd, .string t.nm, .int .i64 t.n, .bool t.fl, .slice A1 t.ns.length c1, .slice A2 t.ms.length c2, .slice A3 t.ks.length c3, .slice none 0 0]) 1 rfl (by unfold maxLen; omega)) (fun b hb => by subst hb; exact ⟨by simp, by omega, fun e => by have := HZ.out _ e; omega⟩)
    · exact AllR.one ⟨_, _, rfl, HT.out.keep (SameOn.of_below hbl (fun b hb => (HS.out b hb).1)) (fun b hb => ⟨by have := (HS.out b hb).1; have := hbl.size; omega, by have := (HS.out b hb).1; omega, (HS.out b hb).2⟩), Row.nil_⟩
    · intro p hp
      simp only [List.mem_cons, List.not_mem_nil, or_false] at hp
      subst hp
      exact HK.out
    · have h1 := metR_made (w.alloc (.cells #[.int .i64 t.kd, .string t.nm, .int .i64 t.n, .bool t.fl, .slice A1 t.ns.length c1, .slice A2 t.ms.length c2, .slice A3 t.ks.length c3] 26))
      have h2 := h1.same (Below.heap_alloc _ (.cells #[.int .i64 t.kd, .string t.nm, .int .i64 t.n, .bool t.fl, .slice A1 t.ns.length c1, .slice A2 t.ms.length c2, .slice A3 t.ks.length c3, .slice none 0 0] 107) _ h1.lt)
      exact Lib.hid (by simpa using h2)
  case round =>
    obtain ⟨m, s, ps, met, A7, c7, xp, rfl, rfl, HR, HC, HO, HP1, HP2, HPK, HM, HB⟩ := hrel
    have hzr := HB.out.size
    cases m with
    | zero => exact absurd HR.out (by simp [RunR])
    | succ m =>
    have hrr := HR.out
    unfold RunR at hrr
    by_cases hps : ps = []
    · have hlen : ps.length = 0 := by rw [hps]; rfl
      have HRS : Hid (r = s) := by
        rcases hrr with h1 | h1
        · exact h1.2
        · exact absurd hps h1.1
      clear hrr hps
      go_wp2_with fail
      exact bodyPost_end (v := .tuple #[]) (by simp [results, Try.results67, go_sem]) rfl ⟨rfl, by rw [HRS.out]; exact HO.out, HB.out⟩
    · rename World => wa
      have hpl : 0 < ps.length := List.length_pos_iff.2 hps
      have hpl3 : (0 : Int) < (ps.length : Int) := by omega
      have hrr2 : Bd L U ps met ∧ _ := (hrr.resolve_left (fun e => hps e.1)).2
      obtain ⟨hbd, hway⟩ := hrr2
      have HBD := Lib.hid hbd
      have HWAY := Lib.hid hway
      have hpl2 : ps.length ≤ 9223372036854775807 := by obtain ⟨_, _, _, hh⟩ := HP1.out.form; exact hh
      have hmbl := HM.out.lt
      clear hrr hbd hway hps
      have HIN : Hid (InL (w.heap.size + 1) Z wa (wa.alloc (.cells #[.slice none 0 0] 93)) (rowAt L U ps met 0).met (.slice none 0 0) [] (rowAt L U ps met 0).row (.slice none 0 0) [] (rowAt L U ps met 0).nx) := by
        refine ⟨⟨Blk.new _ _ _, World.ownsRow_nil _ _ _ _, rfl, fun b hb => ⟨hb.1, hb.2.2.2.1, by simp [Value.ownBlock]⟩, by simp [Value.ownBlock], by simp⟩, World.ownsRow_nil _ _ _ _, rfl, HM.out.same (Below.heap_alloc _ _ _ hmbl), (But.refl _ _).alloc _⟩
      go_wp2_with fail
      go_loopg [9, 21] ps.length (fun d s9 i wx => ∃ (j : Nat) (v2 : Value) (x2 : List Value) (A9 : Option Addr) (c9 : Nat) (xn : List Value), d = ps.length - j ∧ j ≤ ps.length ∧ i = .int .i64 j ∧ s9 = .slice A9 (rowAt L U ps met j).nx.length c9 ∧
        Hid (InL (w.heap.size + 1) Z wa wx (rowAt L U ps met j).met v2 x2 (rowAt L U ps met j).row (.slice A9 (rowAt L U ps met j).nx.length c9) xn (rowAt L U ps met j).nx) ∧ Hid (∀ p ∈ (rowAt L U ps met j).nx, p.1.ok))
      case atStart => exact ⟨0, .slice none 0 0, [], none, 0, [], by simp, by omega, rfl, rfl, HIN, fun p hp => absurd hp (by simp [rowAt])⟩
      case round =>
        clear HIN
        obtain ⟨j, v2, x2, A9, c9, xn, rfl, hj, rfl, rfl, HL, HNK⟩ := hrel
        have hzi := HL.out.but.size
        by_cases hlt : j < ps.length
        · have hsm : SameOn (fun b => b < wa.heap.size ∧ b ≠ w.heap.size + 1 ∧ ¬ Z b) wa wr := HL.out.but.sameOn fun b hb => ⟨hb.1, hb.2.1⟩
          obtain ⟨b, o, cap, E1, e1, E2, e2, E3, e3, E4, e4, hv, hSb, hpl, q0, q1, q2, q3, q4, q5, q6, q7⟩ := plAt (HP1.out.keep hsm) (HP2.out.imp fun _ _ k => k.keep hsm (fun _ h => h)) hlt
          cases hv
          have HBJ := Lib.hid (HBD.out j hj)
          have hpe : pAt ps j = ps[j] := by unfold pAt; rw [List.getElem?_eq_getElem hlt]; rfl
          have HOKP := Lib.hid (HPK.out ps[j] (List.getElem_mem hlt))
          obtain ⟨p, hp⟩ : ∃ p, ps[j] = p := ⟨_, rfl⟩
          have HPE : Hid (pAt ps j = p) := hpe.trans hp
          rw [hp] at hpl q0 q1 q2 q3 q4 q5 q6 q7 HOKP
          have HPL := Lib.hid hpl
          have hbl : b < wr.heap.size := Nat.lt_of_lt_of_le hSb.1 hzi
          have HSB := Lib.hid hSb
          have hj3 : (j : Int) < (ps.length : Int) := by omega
          have HRW : Hid (rowAt L U ps met (j + 1) = if p.1.kd = 8 ∧ inM (rowAt L U ps met j).met p.1.nm = true then rowAt L U ps met j
            else ⟨(rowAt L U ps met j).row ++ stAll L U p, (rowAt L U ps met j).nx ++ stNext U p, if p.1.kd = 8 then p.1.nm :: (rowAt L U ps met j).met else (rowAt L U ps met j).met⟩) := by
            show rowAt L U ps met (j + 1) = _
            rw [rowAt, HPE.out]
          obtain ⟨R, hR⟩ : ∃ R, rowAt L U ps met j = R := ⟨_, rfl⟩
          rw [hR] at HL HNK HBJ HRW ⊢
          have HRE := Lib.hid hR
          clear hsm hpl hSb hpe hp hR
          go_upto_if 28 with fail
          go_cut [] (fun W => ∃ met2, Hid (rowAt L U ps met (j + 1) = ⟨R.row ++ stAll L U p, R.nx ++ stNext U p, met2⟩) ∧
            Hid (Blk W wr.heap.size 107 #[.int .i64 p.1.kd, .string p.1.nm, .int .i64 p.1.n, .bool p.1.fl, .slice E1 p.1.ns.length e1, .slice E2 p.1.ms.length e2, .slice E3 p.1.ks.length e3, .slice E4 p.2.length e4]) ∧
            Hid (InL (w.heap.size + 1) Z wa W met2 v2 x2 R.row (.slice A9 R.nx.length c9) xn R.nx))
          case first =>
            have hnm : p.1.nm.size ≤ Lim := by
              have := HOKP.out
              obtain ⟨⟨k, nm, n, f, ns, ms, ks⟩, pa⟩ := p
              exact this.2.2.1
            have HNM := Lib.hid hnm
            clear hnm
            by_cases h8 : p.1.kd = 8
            · have hb8 : (p.1.kd == 8) = true := by simpa using h8
              have hlk := (HL.out.below (below_al _ (.cells #[.int .i64 p.1.kd, .string p.1.nm, .int .i64 p.1.n, .bool p.1.fl, .slice E1 p.1.ns.length e1, .slice E2 p.1.ms.length e2, .slice E3 p.1.ks.length e3, .slice E4 p.2.length e4] 107))).met.look HNM.out (zero_int _)
              cases hm : inM R.met p.1.nm with
              | true =>
                rw [hm] at hlk
                simp only [if_true] at hlk
                have HRJ : Hid (rowAt L U ps met (j + 1) = R) := by rw [HRW.out, if_pos ⟨h8, hm⟩]; exact rfl
                have HLF : Hid (InL (w.heap.size + 1) Z wa (wr.alloc (.cells #[.int .i64 p.1.kd, .string p.1.nm, .int .i64 p.1.n, .bool p.1.fl, .slice E1 p.1.ns.length e1, .slice E2 p.1.ms.length e2, .slice E3 p.1.ks.length e3, .slice E4 p.2.length e4] 107)) R.met v2 x2 R.row (.slice A9 R.nx.length c9) xn R.nx) := HL.out.below (below_al _ _)
                clear h8 hm
                go_wp2_with fail
                go_roundg (ps.length - (j + 1))
                case measure => omega
                case rel =>
                  refine ⟨j + 1, v2, x2, A9, c9, xn, rfl, by omega, by go_num, by rw [HRJ.out], ?_, ?_⟩
                  · rw [HRJ.out]; exact HLF
                  · rw [HRJ.out]; exact HNK
              | false =>
                rw [hm] at hlk
                simp only [Bool.false_eq_true, if_false] at hlk
                have HRJ : Hid (rowAt L U ps met (j + 1) = ⟨R.row ++ stAll L U p, R.nx ++ stNext U p, p.1.nm :: R.met⟩) := by rw [HRW.out, if_neg (fun e => by rw [hm] at e; exact absurd e.2 (by simp)), if_pos h8]; exact rfl
                have HLF : Hid (InL (w.heap.size + 1) Z wa (wr.alloc (.cells #[.int .i64 p.1.kd, .string p.1.nm, .int .i64 p.1.n, .bool p.1.fl, .slice E1 p.1.ns.length e1, .slice E2 p.1.ms.length e2, .slice E3 p.1.ks.length e3, .slice E4 p.2.length e4] 107)) R.met v2 x2 R.row (.slice A9 R.nx.length c9) xn R.nx) := HL.out.below (below_al _ _)
                have HML : Hid (R.met.length ≤ 1000000000) := HBJ.out.2.2.1
                clear h8 hm
                go_wp2_with (at_mapUpdate; refine wpList_met rfl _ _ _ rfl HLF.out.met (s := p.1.nm) rfl rfl rfl HNM.out HML.out ?_)
                intro w2 hm2 hg2
                have HLP : Hid (InL (w.heap.size + 1) Z wa w2 (p.1.nm :: R.met) v2 x2 R.row (.slice A9 R.nx.length c9) xn R.nx) := HLF.out.put hg2 hm2 hmbl
                have HPB : Hid (Blk w2 wr.heap.size 107 #[.int .i64 p.1.kd, .string p.1.nm, .int .i64 p.1.n, .bool p.1.fl, .slice E1 p.1.ns.length e1, .slice E2 p.1.ms.length e2, .slice E3 p.1.ks.length e3, .slice E4 p.2.length e4]) := (Blk.new _ _ _).grown hg2 (by simp; omega)
                clear hm2 hg2 hlk
                go_wp2_with fail
                go_meet
                exact ⟨_, HRJ, HPB, HLP⟩
            · have hb8 : (p.1.kd == 8) = false := by simpa using h8
              have HRJ : Hid (rowAt L U ps met (j + 1) = ⟨R.row ++ stAll L U p, R.nx ++ stNext U p, R.met⟩) := by rw [HRW.out, if_neg (fun e => h8 e.1), if_neg h8]; exact rfl
              clear h8
              go_wp2_with fail
              go_meet
              exact ⟨R.met, HRJ, Blk.new _ _ _, HL.out.below (below_al _ _)⟩
          case rest =>
            obtain ⟨met2, HRJ, HPB, HL2⟩ := hcut
            have hpl1 := HPB.out.lt
            have k0 : wc.cell? ⟨wr.heap.size, 0, none⟩ = _ := HPB.out.cell 0
            have k1 : wc.cell? ⟨wr.heap.size, 1, none⟩ = _ := HPB.out.cell 1
            have k2 : wc.cell? ⟨wr.heap.size, 2, none⟩ = _ := HPB.out.cell 2
            have k3 : wc.cell? ⟨wr.heap.size, 3, none⟩ = _ := HPB.out.cell 3
            have k4 : wc.cell? ⟨wr.heap.size, 4, none⟩ = _ := HPB.out.cell 4
            have k5 : wc.cell? ⟨wr.heap.size, 5, none⟩ = _ := HPB.out.cell 5
            have k6 : wc.cell? ⟨wr.heap.size, 6, none⟩ = _ := HPB.out.cell 6
            have k7 : wc.cell? ⟨wr.heap.size, 7, none⟩ = _ := HPB.out.cell 7
            have hz2 := HL2.out.but.size
            have hmf : ∀ (fn : Fn) (first cap : Array Value) (w : World), (Instr.makeFunc fn first cap).run Try.prog w = .ok (.func fn first cap) w := fun _ _ _ _ => rfl
            have HWC : Hid (WC wc Sw g L) := H.out.same ((HB.out.sameOn fun b hb => ⟨H.out.old b hb, HSW.out b hb⟩).trans (HL2.out.but.sameOn fun b hb => ⟨Nat.lt_of_lt_of_le (H.out.old b hb) hzr, by have := H.out.old b hb; omega⟩)) (by omega)
            have HPL2 : Hid (PlR wc (Sy (w.heap.size + 1) Z wa.heap.size wc v2 (.slice A9 R.nx.length c9)) p [.int .i64 p.1.kd, .string p.1.nm, .int .i64 p.1.n, .bool p.1.fl, .slice E1 p.1.ns.length e1, .slice E2 p.1.ms.length e2, .slice E3 p.1.ks.length e3, .slice E4 p.2.length e4]) := by
              refine HPL.out.keep ((SameOn.symm (HL.out.but.sameOn fun b hb => ⟨hb.1, hb.2.1⟩)).trans (HL2.out.but.sameOn fun b hb => ⟨hb.1, hb.2.1⟩)) fun b hb => ⟨by have := hb.1; omega, hb.2.1, hb.2.2, by have := hb.1; omega, fun e => ?_, fun e => ?_⟩
              · have := (HL2.out.row.own.lt b e).1; have := hb.1; omega
              · have := (HL2.out.own.lt b e).1; have := hb.1; omega
            have HLIM : Hid (R.row.length ≤ 1000000000 ∧ (lookD L p.1.nm).ms.length ≤ 1000000000 ∧ (stU U p.1).ks.length ≤ 1000000000 ∧ p.2.length ≤ 1000000000) := by
              have h1 := HBJ.out.2.2.2 hlt
              rw [HPE.out] at h1
              exact ⟨HBJ.out.1, h1.1, h1.2.1, h1.2.2⟩
            have HSWV : Hid (∀ b, Sw b → b ≠ wa.heap.size ∧ v2.ownBlock ≠ some b) := fun b hb => ⟨by have := H.out.old b hb; omega, fun e => by have := (HL2.out.row.own.lt b e).1; have := H.out.old b hb; omega⟩
            go_wp2_with fail
            refine (stands_calls (L := L) (U := U) (S := Sy (w.heap.size + 1) Z wa.heap.size wc v2 (.slice A9 R.nx.length c9)) (Sw := Sw) (g := g) (rb := wa.heap.size) (B := wa.heap.size) (p := p) (cs := [.int .i64 p.1.kd, .string p.1.nm, .int .i64 p.1.n, .bool p.1.fl, .slice E1 p.1.ns.length e1, .slice E2 p.1.ms.length e2, .slice E3 p.1.ks.length e3, .slice E4 p.2.length e4]) (xs := x2) (v := v2) (l := R.row) HWC.out HU.out HPL2.out HOKP.out HL2.out.row HLIM.out HSWV.out).mono ?_
            rintro e w1 ⟨vn, v', xn', xs', rfl, hrow, hown, hnd, hbut, ho2⟩
            have hz1 := hbut.size
            obtain ⟨A8, c8, rfl⟩ := own_form hown
            obtain ⟨i0, hi, hz0, hz1', hz2'⟩ := info_parts info_place
            have hnl : (stNext U p).length ≤ 1000000000 := Nat.le_trans (stN_len _ _ _) (Nat.le_trans (Nat.min_le_left _ _) HLIM.out.2.2.1)
            have hnl0 : R.nx.length ≤ 1000000000 := HBJ.out.2.1
            have HROW := Lib.hid hrow
            have HOWN := Lib.hid hown
            have HND := Lib.hid hnd
            have HBUT := Lib.hid hbut
            have HO2 := Lib.hid ho2
            have HNL : Hid ((stNext U p).length ≤ 1000000000 ∧ R.nx.length ≤ 1000000000) := ⟨hnl, hnl0⟩
            clear hrow hown hnd hbut ho2 k0 k1 k2 k3 k4 k5 k6 k7 hnl hnl0
            go_wp2_with (at_builtin; refine wpList_append_row _ rfl _ _ 108 rfl wa.heap.size 107 i0 _ 8 136 Try.underlying108 hi hz0 hz1' hz2' rfl (by omega) (.slice A9 R.nx.length c9) R.nx.length xn rfl ?c1 (fun b => (Value.slice A8 (stNext U p).length c8).ownBlock = some b) (.slice A8 (stNext U p).length c8) (stNext U p).length xn' rfl ?c2 ?c3 ?c4 ?c5 ?c6 ?_)
            case c1 =>
              refine own_same HL2.out.own fun b e => HBUT.out.block b (HL2.out.own.lt b e).2 fun e2 => ?_
              rcases e2 with e2 | e2
              · exact own_blk HL2.out.own HL2.out.row.var (by decide) (e2 ▸ e)
              · exact own_ne HL2.out.row.own HL2.out.own (by decide) b e2 e
            case c2 => exact Row.of_own HOWN.out (fun b hb => hb)
            case c3 => exact plRs_one HND.out
            case c4 => have := HNL.out; unfold maxLen; omega
            case c5 => have := HNL.out; omega
            case c6 => omega
            intro s9' w3 hown3 hg3 hnil3 hat3
            have HL3 := Lib.hid (HL2.out.stood HROW.out HND.out HBUT.out HO2.out hmbl (fun b hb => by have := HZ.out b hb; omega) hown3 hg3 hat3)
            obtain ⟨A10, c10, rfl⟩ := own_form hown3
            clear hown3 hg3 hnil3 hat3 hi hz0 hz1' hz2'
            go_wp2_with fail
            go_roundg (ps.length - (j + 1))
            case measure => omega
            case rel =>
              refine ⟨j + 1, v', xs', A10, c10, xn ++ xn', rfl, by omega, by go_num, by rw [HRJ.out]; simp, ?_, ?_⟩
              · rw [HRJ.out]; exact Lib.hid (by simpa using HL3.out)
              · rw [HRJ.out]
                intro q hq
                rcases List.mem_append.1 hq with hq | hq
                · exact HNK.out q hq
                · exact stN_ok (stU_ok H.out.ok HU.out HOKP.out) _ q hq
        · obtain rfl : j = ps.length := by omega
          obtain ⟨R, hR⟩ : ∃ R, rowAt L U ps met ps.length = R := ⟨_, rfl⟩
          have hrl : R.row.length ≤ 1000000000 := by rw [← hR]; exact (HBD.out ps.length (Nat.le_refl _)).1
          rw [hR] at HL HNK HWAY ⊢
          have HRL := Lib.hid hrl
          have HROK : Hid (∀ x ∈ R.row, FOk x) := by rw [← hR]; exact rowAt_ok H.out.ok HU.out HPK.out _
          clear hR hrl HBD
          have hc : wr.cell? ⟨wa.heap.size, 0, none⟩ = some v2 := HL.out.row.var.cell 0
          have hvl := HL.out.row.var.lt
          have HO2 : Hid (Out s wr) := HD.out.stay s wa wr HC.out HO.out (HL.out.but.block ob (by omega) (by omega)) hzi
          have HB2 : Hid (But (fun b => b = ob) w wr) := HB.out.trans HL.out.but fun i hi e => by omega
          have HROW : Hid (Row wr (fun b => Sy (w.heap.size + 1) Z wa.heap.size wr v2 (.slice A9 R.nx.length c9) b ∨ v2.ownBlock = some b) 13 v2 R.row.length x2) := Row.of_own HL.out.row.own fun b hb => .inr hb
          have HDAT : Hid (AllR (NfR wr (fun b => Sy (w.heap.size + 1) Z wa.heap.size wr v2 (.slice A9 R.nx.length c9) b ∨ v2.ownBlock = some b)) R.row x2) := HL.out.row.data.imp fun _ _ k => k.keep (SameOn.refl _ _) fun b hb => .inl hb
          obtain ⟨A8, c8, rfl⟩ := own_form HL.out.row.own
          go_wp2_with fail
          rw [HD.out.enters, Oper.upon_enter]
          refine (HD.out.run s wr _ (.slice A8 R.row.length c8) R.row x2 HC.out HO2.out HB2.out HROW.out HDAT.out (fun b hb => ?_) HRL.out HROK.out).mono ?_
          · rcases hb with hb | hb
            · exact ⟨hb.1, hb.2.2.1⟩
            · have := HL.out.row.own.lt b hb; exact ⟨by omega, fun e => by have := HZ.out b e; omega⟩
          rintro e w1 ⟨rfl, hout, hbut⟩
          have hz1 := hbut.size
          have HOUT := Lib.hid hout
          have HBUT := Lib.hid hbut
          have HBF : Hid (But (fun b => b = ob) w w1) := HB2.out.trans hbut fun _ _ h => h
          clear hout hbut hc
          cases hcn : cont s R.row with
          | false =>
            have HRR : Hid (r = step s R.row) := by
              rcases HWAY.out with h1 | h1
              · exact h1.2
              · rw [hcn] at h1; exact absurd h1.1 (by simp)
            clear hcn HWAY
            go_wp2_with fail
            exact bodyPost_ret (v := .tuple #[]) (by simp [results, Try.results67, go_sem]) rfl ⟨rfl, by rw [HRR.out]; exact HOUT.out, HBF.out⟩
          | true =>
            have HRR : Hid (Cont (step s R.row) ∧ RunR L U step cont Cont m (step s R.row) R.nx R.met r) := by
              rcases HWAY.out with h1 | h1
              · rw [hcn] at h1; exact absurd h1.1 (by simp)
              · exact h1.2
            have HCC : Hid (Cont (step s R.row)) := HRR.out.1
            clear hcn HWAY
            go_wp2_with fail
            go_roundg m
            case measure => omega
            case rel =>
              have hos : ∀ b, (Value.slice A9 R.nx.length c9).ownBlock = some b → wa.heap.size ≤ b ∧ b < wr.heap.size := fun b e => HL.out.own.lt b e
              refine ⟨m, step s R.row, R.nx, R.met, A9, c9, xn, rfl, rfl, HRR.out.2, HCC, HOUT, ?_, ?_, HNK, ?_, HBF⟩
              · refine Row.of_own (own_same HL.out.own fun b e => HBUT.out.block b (hos b e).2 (by have := (hos b e).1; omega)) fun b e => ?_
                have := hos b e
                exact ⟨by omega, by omega, fun e => by have := HZ.out b e; omega⟩
              · refine HL.out.nxd.imp fun _ _ k => k.keep (HBUT.out.sameOn fun b hb => ⟨hb.1, fun e => hb.2.2.1 (e ▸ hZo)⟩) fun b hb => ⟨by have := hb.1; omega, hb.2.1, hb.2.2.1⟩
              · exact HL.out.met.same (HBUT.out.block _ HL.out.met.lt (by omega))
end Go.Proofs.Ytanhdklaponekaa
