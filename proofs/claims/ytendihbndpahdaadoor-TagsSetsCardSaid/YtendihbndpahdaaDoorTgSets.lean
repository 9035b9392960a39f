/- tags.Sets, recastref6.Sets: the sets of texts, by their bits. -/
import Derived.Test.YtendihbndpahdaaDoorTgRefS
namespace Go.Proofs.YtendihbndpahdaaDoor
open Go Go.RowKit Go.Sort Go.Lib

/-- the texts of t at the bits of k, the first one's the highest -/
def sub : List (List UInt8) → Nat → List (List UInt8)
  | [], _ => []
  | x :: r, k => if k.testBit r.length then x :: sub r k else sub r k
theorem sub_at {t : List (List UInt8)} {j : Nat} (h : j < t.length) (k : Nat) : sub (t.drop j) k = if k.testBit (t.length - 1 - j) then t[j] :: sub (t.drop (j + 1)) k else sub (t.drop (j + 1)) k := by
  rw [drop_at t j h, sub, List.length_drop, show t.length - (j + 1) = t.length - 1 - j by omega]
theorem sub_len : ∀ (t : List (List UInt8)) (k : Nat), (sub t k).length ≤ t.length
  | [], _ => Nat.le_refl _
  | x :: r, k => by
    have := sub_len r k
    unfold sub
    split
    · simp only [List.length_cons]; omega
    · simp only [List.length_cons]; omega
/-- the first k sets -/
def subs (t : List (List UInt8)) (k : Nat) : List (List (List UInt8)) := (List.range k).map (sub t)
theorem subs_succ (t : List (List UInt8)) (k : Nat) : subs t (k + 1) = subs t k ++ [sub t k] := by
  simp [subs, List.range_succ]
theorem subs_len (t : List (List UInt8)) (k : Nat) : (subs t k).length = k := by simp [subs]

theorem band1 : ∀ x : Fin 1025, (bits .and .i64 ((x.val : Nat) : Int) 1 == 1) = decide (x.val % 2 = 1) := by decide +kernel
theorem bit_of {k m : Nat} (hk : k ≤ 1024) : (bits .and .i64 ((k : Int) / 2 ^ m) 1 == 1) = k.testBit m := by
  have e : ((k : Int) / 2 ^ m) = ((k / 2 ^ m : Nat) : Int) := by
    rw [Int.natCast_ediv, Int.natCast_pow]; rfl
  rw [e, band1 ⟨k / 2 ^ m, Nat.lt_of_le_of_lt (Nat.div_le_self _ _) (by omega)⟩, Nat.testBit_eq_decide_div_mod_eq]

/-- a []string that holds these -/
def StrsV (w : World) (S : Nat → Prop) (v : Value) (l : List (List UInt8)) : Prop := Row w S 1 v l.length (l.map encStr)
/-- cells that are []strings -/
def StrsL (w : World) (S : Nat → Prop) : List (List (List UInt8)) → List Value → Prop
  | [], vs => vs = []
  | l :: ls, vs => ∃ v vs', vs = v :: vs' ∧ StrsV w S v l ∧ StrsL w S ls vs'
theorem StrsL.keep {w w' : World} {S S' : Nat → Prop} (hs : SameOn S w w') (h1 : ∀ b, S b → S' b) : ∀ {ls : List (List (List UInt8))} {vs : List Value}, StrsL w S ls vs → StrsL w' S' ls vs
  | [], vs, h => h
  | l :: ls, vs, h => by
    obtain ⟨v, vs', rfl, a, b⟩ := h
    exact ⟨v, vs', rfl, (Row.keep a hs).more h1, b.keep hs h1⟩
theorem StrsL.app {w : World} {S : Nat → Prop} : ∀ {ls : List (List (List UInt8))} {vs : List Value} {l : List (List UInt8)} {v : Value}, StrsL w S ls vs → StrsV w S v l → StrsL w S (ls ++ [l]) (vs ++ [v])
  | [], vs, l, v, h, a => by
    have h' : vs = [] := h
    subst h'
    exact ⟨v, [], rfl, a, rfl⟩
  | l' :: ls, vs, l, v, h, a => by
    obtain ⟨v', vs', rfl, b, c⟩ := h
    exact ⟨v', vs' ++ [v], rfl, b, c.app a⟩
theorem StrsL.at_ {w : World} {S : Nat → Prop} : ∀ {ls : List (List (List UInt8))} {vs : List Value} {i : Nat} (_ : StrsL w S ls vs) (hi : i < ls.length), ∃ v, vs[i]? = some v ∧ StrsV w S v ls[i]
  | l :: ls, vs, 0, h, _ => by
    obtain ⟨v, vs', rfl, a, _⟩ := h
    exact ⟨v, rfl, a⟩
  | l :: ls, vs, i + 1, h, hi => by
    obtain ⟨v, vs', rfl, _, b⟩ := h
    obtain ⟨u, h1, h2⟩ := b.at_ (i := i) (by simpa using hi)
    exact ⟨u, h1, h2⟩
def SetsRes (ls : List (List (List UInt8))) (w : World) (e : Ending) (w' : World) : Prop :=
  ∃ u vs, e = .returned u ∧ w'.ownsRow w.heap.size 22 1 u ls.length vs ∧ StrsL w' (New w w') ls vs ∧ Below w.heap.size w w'
def setsOf (l : List (List UInt8)) : List (List (List UInt8)) := if 10 < (cs l).length then [] else subs (cs l) (2 ^ (cs l).length)
theorem info_strs : (Tryd.prog.info? 22).map (fun i => (i.zero, i.size, i.bytes)) = some (some (.slice none 0 0), 1, 24) := by kernel_rfl

/-- k sets so far, in memory that is the call's own, and the texts -/
structure OutR (w w1 wr : World) (u : Value) (tv : Value) (t : List (List UInt8)) (k : Nat) (vs : List Value) : Prop where
  own : wr.ownsRow w.heap.size 22 1 u k vs
  all : StrsL wr (fun b => New w wr b ∧ u.ownBlock ≠ some b) (subs t k) vs
  txt : Row wr (fun b => New w w1 b ∧ u.ownBlock ≠ some b) 1 tv t.length (t.map encStr)
  below : Below w.heap.size w wr
  old : w1.heap.size ≤ wr.heap.size
theorem OutR.go {w w1 wr wq : World} {u tv : Value} {t : List (List UInt8)} {k : Nat} {vs : List Value} (h : OutR w w1 wr u tv t k vs) (hb : Below wr.heap.size wr wq) : OutR w w1 wq u tv t k vs :=
  ⟨own_below h.own hb, h.all.keep (SameOn.of_below hb fun b hb' => hb'.1.2) fun b hb' => ⟨⟨hb'.1.1, Nat.lt_of_lt_of_le hb'.1.2 hb.size⟩, hb'.2⟩,
   h.txt.keep (SameOn.of_below hb fun b hb' => Nat.lt_of_lt_of_le hb'.1.2 h.old), h.below.trans (hb.mono h.below.size), Nat.le_trans h.old hb.size⟩
theorem OutR.start {w w1 : World} {tv : Value} {t : List (List UInt8)} (ho : w1.ownsRow w.heap.size 9 1 tv t.length (t.map encStr)) (hb : Below w.heap.size w w1) : OutR w w1 w1 (.slice none 0 0) tv t 0 [] :=
  ⟨World.ownsRow_nil _ _ _ _, rfl, Row.of_own ho fun b hk => ⟨ho.lt b hk, by simp [Value.ownBlock]⟩, hb, Nat.le_refl _⟩
/-- one set more -/
theorem OutR.more {w w1 wo wq w6 : World} {U tv x : Value} {t : List (List UInt8)} {k : Nat} {vs : List Value} (h : OutR w w1 wo U tv t k vs) (hbq : Below wo.heap.size wo wq)
    (hx : wq.ownsRow wo.heap.size 9 1 x (sub t k).length ((sub t k).map encStr)) {v' : Value}
    (hown : w6.ownsRow w.heap.size 22 1 v' (k + 1) (vs ++ [x])) (hg : (wq.alloc (.cells #[x] 22)).grownBy w6 U.ownBlock) (hat : v'.ownBlock = U.ownBlock ∨ v'.ownBlock = some (wq.alloc (.cells #[x] 22)).heap.size) :
    OutR w w1 w6 v' tv t (k + 1) (vs ++ [x]) := by
  have hA := (h.go hbq).go ((Below.refl wq.heap.size wq).alloc (Nat.le_refl _) (.cells #[x] 22))
  have hB : Below w.heap.size w w6 := hA.below.grown hg hA.below.size fun b hb => (hA.own.lt b hb).1
  have hz : (wq.alloc (.cells #[x] 22)).heap.size ≤ w6.heap.size := hg.size
  have hzq : (wq.alloc (.cells #[x] 22)).heap.size = wq.heap.size + 1 := World.size_alloc ..
  have hne : ∀ b, b < (wq.alloc (.cells #[x] 22)).heap.size → U.ownBlock ≠ some b → v'.ownBlock ≠ some b := by
    intro b hb hn e
    rcases hat with h1 | h1
    · rw [h1] at e; exact hn e
    · rw [h1] at e; injection e with e; omega
  have hxr : StrsV (wq.alloc (.cells #[x] 22)) (fun b => New w w6 b ∧ v'.ownBlock ≠ some b ∧ U.ownBlock ≠ some b ∧ b < (wq.alloc (.cells #[x] 22)).heap.size) x (sub t k) := by
    refine (Row.of_own (S := fun b => wo.heap.size ≤ b ∧ b < wq.heap.size) hx fun b hb => ?_).keep (SameOn.of_below ((Below.refl wq.heap.size wq).alloc (Nat.le_refl _) (.cells #[x] 22)) fun b hb => hb.2) |>.more fun b hb => ?_
    · exact hx.lt b hb
    · have hUb : U.ownBlock ≠ some b := fun e => by have := (h.own.lt b e).2; omega
      have hbl : b < (wq.alloc (.cells #[x] 22)).heap.size := by rw [hzq]; omega
      refine ⟨⟨?_, Nat.lt_of_lt_of_le hbl hz⟩, hne b hbl hUb, hUb, hbl⟩
      exact Nat.le_trans h.below.size hb.1
  refine ⟨hown, ?_, ?_, hB, Nat.le_trans hA.old hz⟩
  · rw [subs_succ]
    refine StrsL.app ?_ ?_
    · refine hA.all.keep (SameOn.of_grown hg (fun b hb => hb.1.2) fun b hb => fun e => hb.2 e.symm) fun b hb => ⟨⟨hb.1.1, Nat.lt_of_lt_of_le hb.1.2 hz⟩, hne b hb.1.2 hb.2⟩
    · refine (hxr.keep (SameOn.of_grown hg (fun b hb => hb.2.2.2) fun b hb => fun e => hb.2.2.1 e.symm)).more fun b hb => ⟨hb.1, hb.2.1⟩
  · refine (hA.txt.keep (SameOn.of_grown hg (fun b hb => Nat.lt_of_lt_of_le hb.1.2 hA.old) fun b hb => fun e => hb.2 e.symm)).more fun b hb => ⟨hb.1, hne b (Nat.lt_of_lt_of_le hb.1.2 hA.old) hb.2⟩
theorem OutR.done {w w1 wr : World} {u tv : Value} {t : List (List UInt8)} {k : Nat} {vs : List Value} (h : OutR w w1 wr u tv t k vs) : ∃ vs', wr.ownsRow w.heap.size 22 1 u (subs t k).length vs' ∧ StrsL wr (New w wr) (subs t k) vs' ∧ Below w.heap.size w wr :=
  ⟨vs, by rw [subs_len]; exact h.own, h.all.keep (SameOn.refl _ _) fun b hb => hb.1, h.below⟩

set_option maxHeartbeats 4000000 in
set_option maxRecDepth 100000 in
theorem sets_calls {w : World} {S : Nat → Prop} {v : Value} {l : List (List UInt8)} (hlim : l.length * 16 ≤ 140737488355328) (h : Row w S 1 v l.length (l.map encStr)) :
    Calls Tryd.prog 7 #[v] w (SetsRes (setsOf l) w) := by
  have HRES : ∀ e W', SetsRes (setsOf l) w e W' → SetsRes (setsOf l) w e W' := fun _ _ h => h
  have HR := Lib.hid HRES
  obtain ⟨i0, hi, iz0, iz1, iz2⟩ := info_parts info_str
  obtain ⟨e0, he, ez0, ez1, ez2⟩ := info_parts info_strs
  obtain ⟨A, cap, rfl, hlen⟩ := h.form
  have H := Lib.hid h
  have HLM := Lib.hid hlim
  clear h HRES hlim
  go_enter Tryd.func7, Tryd.ntmps7
  go_wp2_with fail
  refine (sorted_calls HLM.out H.out).mono ?_
  rintro e w1 ⟨u, rfl, ho, hb⟩
  obtain ⟨B, b, rfl⟩ := own_form ho
  by_cases hbig : 10 < (cs l).length
  · have HB := Lib.hid hb
    clear hb ho
    have hd : decide ((10 : Int) < ((cs l).length : Int)) = true := decide_eq_true (by omega)
    go_wp2_with fail
    go_ret
    exact HR.out _ _ ⟨_, [], rfl, by unfold setsOf; rw [if_pos hbig]; exact World.ownsRow_nil _ _ _ _, by unfold setsOf; rw [if_pos hbig]; rfl, HB.out⟩
  · obtain ⟨n, hn⟩ : ∃ n, (cs l).length = n := ⟨_, rfl⟩
    obtain ⟨t, ht⟩ : ∃ t, cs l = t := ⟨_, rfl⟩
    have HSO : Hid (setsOf l = subs t (2 ^ n)) := by unfold Hid setsOf; rw [if_neg hbig, hn, ht]
    rw [hn] at hbig ⊢
    rw [ht] at hn
    have HO0 : Hid (OutR w w1 w1 (.slice none 0 0) (.slice B n b) t 0 []) := by
      have := OutR.start ho hb
      rw [ht, hn] at this
      exact this
    have HN := Lib.hid hn
    have hd : decide ((10 : Int) < (n : Int)) = false := decide_eq_false (by omega)
    obtain ⟨M, hM⟩ : ∃ M : Nat, 2 ^ n = M := ⟨_, rfl⟩
    have hM1 : M ≤ 1024 := by
      rw [← hM]
      exact Nat.pow_le_pow_right (by omega) (show n ≤ 10 by omega)
    have hM0 : 0 < M := by rw [← hM]; exact Nat.two_pow_pos n
    have hP : wrap64 ((2 : Int) ^ n) = (M : Int) := by
      have e : ((2 : Int) ^ n) = (M : Int) := by rw [← hM]; simp
      rw [e]
      exact IntWalk.wrap64_in _ (by omega)
    have HM := Lib.hid hM
    have hn10 : n ≤ 10 := by omega
    clear hM ho hb ht hn hbig
    go_wp2_with fail
    rw [hP]
    clear hP hd
    go_loopg [3, 16] M (fun d u iv wr => ∃ (k : Nat) (vs : List Value), d = M - k ∧ k ≤ M ∧ iv = .int .i64 k ∧ Hid (OutR w w1 wr u (.slice B n b) t k vs))
    case atStart => exact ⟨0, [], rfl, by omega, by go_num, HO0.out⟩
    case round =>
      clear HO0
      obtain ⟨k, vs, rfl, hk, rfl, HU⟩ := hrel
      rename World => wo
      obtain ⟨U, c, rfl⟩ := own_form HU.out.own
      by_cases hlt : k < M
      · go_wp2_with fail
        go_loopg [5, 21] n (fun d u jv wq => ∃ (j : Nat) (acc : List (List UInt8)), d = n - j ∧ j ≤ n ∧ jv = .int .i64 j ∧ Hid (wq.ownsRow wo.heap.size 9 1 u acc.length (acc.map encStr)) ∧ Hid (acc ++ sub (t.drop j) k = sub t k) ∧ acc.length ≤ j ∧ Hid (Below wo.heap.size wo wq))
        case atStart => exact ⟨0, [], rfl, by omega, by go_num, World.ownsRow_nil _ _ _ _, by simp [Hid], Nat.le_refl _, Below.refl _ _⟩
        case round =>
          obtain ⟨j, acc, rfl, hj, rfl, HA, HK, hac, HBQ⟩ := hrel
          obtain ⟨Au, au, rfl⟩ := own_form HA.out
          have HUQ : Hid (OutR w w1 wr (.slice U k c) (.slice B n b) t k vs) := HU.out.go HBQ.out
          by_cases hjl : j < n
          · have hjt : j < t.length := by rw [HN.out]; exact hjl
            have hRW := HUQ.out.txt
            rw [HN.out] at hRW
            obtain ⟨b0, o0, c0, u, hv, -, hu, hc⟩ := hRW.at1 hjl
            cases hv
            rw [List.getElem?_map, List.getElem?_eq_getElem hjt] at hu
            obtain ⟨s, hs⟩ : ∃ s : ByteArray, (⟨t[j].toArray⟩ : ByteArray) = s := ⟨_, rfl⟩
            have hu2 : u = .string s := by rw [← hs]; simpa [encStr] using hu.symm
            subst hu2
            have HSS := Lib.hid hs
            have hsub := sub_at hjt k
            rw [HN.out] at hsub
            obtain ⟨r, hr⟩ : ∃ r, k.testBit (n - 1 - j) = r := ⟨_, rfl⟩
            rw [hr] at hsub
            have hbit := bit_of (k := k) (m := n - 1 - j) (by omega)
            rw [hr] at hbit
            have HSB := Lib.hid hsub
            clear hu hRW hs hr hsub
            have hs0 : (0 : Int) ≤ (n : Int) - 1 - (j : Int) := by omega
            have hs1 : (n : Int) - 1 - (j : Int) ≤ 9 := by omega
            cases r with
            | true =>
              have HK2 : Hid ((acc ++ [t[j]'(by rw [HN.out]; exact hjl)]) ++ sub (t.drop (j + 1)) k = sub t k) := by
                have := HK.out
                rw [HSB.out] at this
                unfold Hid
                rw [List.append_assoc]
                exact this
              clear HSB HK
              go_wp2_with (at_builtin; refine wpList_append_row _ rfl _ _ 22 rfl wo.heap.size 9 i0 _ 1 16 Tryd.underlying22 hi iz0 iz1 iz2 rfl (by omega) _ acc.length (acc.map encStr) rfl ?c1 (fun _ => True) (.slice (some ⟨wr.heap.size, 0, none⟩) 1 1) 1 [.string s] rfl ?c2 ?c3 ?c4 ?c5 ?c6 ?_)
              case c1 => exact own_below HA.out ((Below.refl _ _).alloc (Nat.le_refl _) _)
              case c2 => exact row_blk (cs := [.string s]) (Blk.new wr 9 _) rfl (by decide) trivial
              case c3 => intro u hu; simp at hu; subst hu; rfl
              case c4 => unfold maxLen; omega
              case c5 => omega
              case c6 => have := HBQ.out.size; simp; omega
              intro v' w6 hown hg hnil hat
              have hzq := HBQ.out.size
              have HB6 : Hid (Below wo.heap.size wo w6) := (HBQ.out.alloc hzq _).grown hg (by simp; omega) (own_ge HA.out)
              have HA6 : Hid (w6.ownsRow wo.heap.size 9 1 v' (acc ++ [t[j]'(by rw [HN.out]; exact hjl)]).length ((acc ++ [t[j]'(by rw [HN.out]; exact hjl)]).map encStr)) := by
                unfold Hid
                rw [List.length_append, List.map_append]
                have e : [encStr (t[j]'(by rw [HN.out]; exact hjl))] = [Value.string s] := by rw [← HSS.out]
                rw [List.map_cons, List.map_nil, e]; exact hown
              clear hown hg hnil hat
              go_wp2_with fail
              go_roundg (n - (j + 1))
              case measure => omega
              case rel => exact ⟨j + 1, _, rfl, by omega, by go_num, HA6.out, HK2.out, by rw [List.length_append, List.length_singleton]; omega, HB6.out⟩
            | false =>
              have HK2 : Hid (acc ++ sub (t.drop (j + 1)) k = sub t k) := by
                have := HK.out
                rw [HSB.out] at this
                exact this
              clear HSB HK
              go_wp2_with fail
              go_roundg (n - (j + 1))
              case measure => omega
              case rel => exact ⟨j + 1, acc, rfl, by omega, by go_num, HA.out, HK2.out, by omega, HBQ.out⟩
          · obtain rfl : j = n := by omega
            have HACC : Hid (acc = sub t k) := by
              have := HK.out
              rw [drop_end t j (by rw [HN.out]; exact Nat.le_refl _)] at this
              unfold Hid
              simpa [sub] using this
            clear HK
            go_wp2_with (at_builtin; refine wpList_append_row _ rfl _ _ 25 rfl w.heap.size 22 e0 _ 1 24 Tryd.underlying25 he ez0 ez1 ez2 rfl (by omega) _ k vs rfl ?d1 (fun _ => True) (.slice (some ⟨wr.heap.size, 0, none⟩) 1 1) 1 [.slice Au acc.length au] rfl ?d2 ?d3 ?d4 ?d5 ?d6 ?_)
            case d1 => exact own_below HUQ.out.own ((Below.refl _ _).alloc (Nat.le_refl _) _)
            case d2 => exact row_blk (cs := [.slice Au acc.length au]) (Blk.new wr 22 _) rfl (by decide) trivial
            case d3 => intro u hu; simp at hu; subst hu; rfl
            case d4 => unfold maxLen; omega
            case d5 => omega
            case d6 => have := HUQ.out.below.size; simp; omega
            intro v' w6 hown hg hnil hat
            have HU6 : Hid (OutR w w1 w6 v' (.slice B j b) t (k + 1) (vs ++ [.slice Au acc.length au])) :=
              HU.out.more HBQ.out (by rw [← HACC.out]; exact HA.out) hown hg (by rw [World.size_alloc]; exact hat)
            clear hown hg hnil hat
            go_wp2_with fail
            go_roundg (M - (k + 1))
            case measure => omega
            case rel => exact ⟨k + 1, _, rfl, by omega, by go_num, HU6.out⟩
      · obtain rfl : k = M := by omega
        have HD := Lib.hid HU.out.done
        go_wp2_with fail
        go_ret
        obtain ⟨vs', d1, d2, d3⟩ := HD.out
        refine HR.out _ _ ⟨_, vs', rfl, ?_, ?_, d3⟩
        · rw [HSO.out, HM.out]; exact d1
        · rw [HSO.out, HM.out]; exact d2

set_option maxHeartbeats 4000000 in
set_option maxRecDepth 100000 in
theorem refSets_calls {w : World} {S : Nat → Prop} {v : Value} {l : List (List UInt8)} (hlim : l.length * 16 ≤ 140737488355328) (h : Row w S 1 v l.length (l.map encStr)) (hS : Old S w) :
    Calls Tryd.prog 8 #[v] w (SetsRes (setsOf l) w) := by
  have HRES : ∀ e W', SetsRes (setsOf l) w e W' → SetsRes (setsOf l) w e W' := fun _ _ h => h
  have HR := Lib.hid HRES
  obtain ⟨i0, hi, iz0, iz1, iz2⟩ := info_parts info_str
  obtain ⟨e0, he, ez0, ez1, ez2⟩ := info_parts info_strs
  obtain ⟨A, cap, rfl, hlen⟩ := h.form
  have H := Lib.hid h
  have HLM := Lib.hid hlim
  have HS := Lib.hid hS
  clear hS
  clear h HRES hlim
  go_enter Tryd.func8, Tryd.ntmps8
  go_wp2_with fail
  refine (refSorted_calls HLM.out H.out HS.out).mono ?_
  rintro e w1 ⟨u, rfl, ho, hb⟩
  obtain ⟨B, b, rfl⟩ := own_form ho
  by_cases hbig : 10 < (cs l).length
  · have HB := Lib.hid hb
    clear hb ho
    have hd : decide ((10 : Int) < ((cs l).length : Int)) = true := decide_eq_true (by omega)
    go_wp2_with fail
    go_ret
    exact HR.out _ _ ⟨_, [], rfl, by unfold setsOf; rw [if_pos hbig]; exact World.ownsRow_nil _ _ _ _, by unfold setsOf; rw [if_pos hbig]; rfl, HB.out⟩
  · obtain ⟨n, hn⟩ : ∃ n, (cs l).length = n := ⟨_, rfl⟩
    obtain ⟨t, ht⟩ : ∃ t, cs l = t := ⟨_, rfl⟩
    have HSO : Hid (setsOf l = subs t (2 ^ n)) := by unfold Hid setsOf; rw [if_neg hbig, hn, ht]
    rw [hn] at hbig ⊢
    rw [ht] at hn
    have HO0 : Hid (OutR w w1 w1 (.slice none 0 0) (.slice B n b) t 0 []) := by
      have := OutR.start ho hb
      rw [ht, hn] at this
      exact this
    have HN := Lib.hid hn
    have hd : decide ((10 : Int) < (n : Int)) = false := decide_eq_false (by omega)
    obtain ⟨M, hM⟩ : ∃ M : Nat, 2 ^ n = M := ⟨_, rfl⟩
    have hM1 : M ≤ 1024 := by
      rw [← hM]
      exact Nat.pow_le_pow_right (by omega) (show n ≤ 10 by omega)
    have hM0 : 0 < M := by rw [← hM]; exact Nat.two_pow_pos n
    have hP : wrap64 ((2 : Int) ^ n) = (M : Int) := by
      have e : ((2 : Int) ^ n) = (M : Int) := by rw [← hM]; simp
      rw [e]
      exact IntWalk.wrap64_in _ (by omega)
    have HM := Lib.hid hM
    have hn10 : n ≤ 10 := by omega
    clear hM ho hb ht hn hbig
    go_wp2_with fail
    clear hd
    go_loopg [4, 5] M (fun d u iv wr => ∃ (k : Nat) (vs : List Value), d = M - k ∧ k ≤ M ∧ iv = .int .i64 k ∧ Hid (OutR w w1 wr u (.slice B n b) t k vs))
    case atStart => exact ⟨0, [], rfl, by omega, by go_num, HO0.out⟩
    case round =>
      clear HO0
      obtain ⟨k, vs, rfl, hk, rfl, HU⟩ := hrel
      rename World => wo
      obtain ⟨U, c, rfl⟩ := own_form HU.out.own
      by_cases hlt : k < M
      · go_wp2_with fail
        rw [hP]
        go_loopg [6, 7] n (fun d u jv wq => ∃ (j : Nat) (acc : List (List UInt8)), d = n - j ∧ j ≤ n ∧ jv = .int .i64 j ∧ Hid (wq.ownsRow wo.heap.size 9 1 u acc.length (acc.map encStr)) ∧ Hid (acc ++ sub (t.drop j) k = sub t k) ∧ acc.length ≤ j ∧ Hid (Below wo.heap.size wo wq))
        case atStart => exact ⟨0, [], rfl, by omega, by go_num, World.ownsRow_nil _ _ _ _, by simp [Hid], Nat.le_refl _, Below.refl _ _⟩
        case round =>
          obtain ⟨j, acc, rfl, hj, rfl, HA, HK, hac, HBQ⟩ := hrel
          obtain ⟨Au, au, rfl⟩ := own_form HA.out
          have HUQ : Hid (OutR w w1 wr (.slice U k c) (.slice B n b) t k vs) := HU.out.go HBQ.out
          by_cases hjl : j < n
          · have hjt : j < t.length := by rw [HN.out]; exact hjl
            have hRW := HUQ.out.txt
            rw [HN.out] at hRW
            obtain ⟨b0, o0, c0, u, hv, -, hu, hc⟩ := hRW.at1 hjl
            cases hv
            rw [List.getElem?_map, List.getElem?_eq_getElem hjt] at hu
            obtain ⟨s, hs⟩ : ∃ s : ByteArray, (⟨t[j].toArray⟩ : ByteArray) = s := ⟨_, rfl⟩
            have hu2 : u = .string s := by rw [← hs]; simpa [encStr] using hu.symm
            subst hu2
            have HSS := Lib.hid hs
            have hsub := sub_at hjt k
            rw [HN.out] at hsub
            obtain ⟨r, hr⟩ : ∃ r, k.testBit (n - 1 - j) = r := ⟨_, rfl⟩
            rw [hr] at hsub
            have hbit := bit_of (k := k) (m := n - 1 - j) (by omega)
            rw [hr] at hbit
            have HSB := Lib.hid hsub
            clear hu hRW hs hr hsub
            have hs0 : (0 : Int) ≤ (n : Int) - 1 - (j : Int) := by omega
            have hs1 : (n : Int) - 1 - (j : Int) ≤ 9 := by omega
            cases r with
            | true =>
              have HK2 : Hid ((acc ++ [t[j]'(by rw [HN.out]; exact hjl)]) ++ sub (t.drop (j + 1)) k = sub t k) := by
                have := HK.out
                rw [HSB.out] at this
                unfold Hid
                rw [List.append_assoc]
                exact this
              clear HSB HK
              go_wp2_with (at_builtin; refine wpList_append_row _ rfl _ _ 22 rfl wo.heap.size 9 i0 _ 1 16 Tryd.underlying22 hi iz0 iz1 iz2 rfl (by omega) _ acc.length (acc.map encStr) rfl ?c1 (fun _ => True) (.slice (some ⟨wr.heap.size, 0, none⟩) 1 1) 1 [.string s] rfl ?c2 ?c3 ?c4 ?c5 ?c6 ?_)
              case c1 => exact own_below HA.out ((Below.refl _ _).alloc (Nat.le_refl _) _)
              case c2 => exact row_blk (cs := [.string s]) (Blk.new wr 9 _) rfl (by decide) trivial
              case c3 => intro u hu; simp at hu; subst hu; rfl
              case c4 => unfold maxLen; omega
              case c5 => omega
              case c6 => have := HBQ.out.size; simp; omega
              intro v' w6 hown hg hnil hat
              have hzq := HBQ.out.size
              have HB6 : Hid (Below wo.heap.size wo w6) := (HBQ.out.alloc hzq _).grown hg (by simp; omega) (own_ge HA.out)
              have HA6 : Hid (w6.ownsRow wo.heap.size 9 1 v' (acc ++ [t[j]'(by rw [HN.out]; exact hjl)]).length ((acc ++ [t[j]'(by rw [HN.out]; exact hjl)]).map encStr)) := by
                unfold Hid
                rw [List.length_append, List.map_append]
                have e : [encStr (t[j]'(by rw [HN.out]; exact hjl))] = [Value.string s] := by rw [← HSS.out]
                rw [List.map_cons, List.map_nil, e]; exact hown
              clear hown hg hnil hat
              go_wp2_with fail
              go_roundg (n - (j + 1))
              case measure => omega
              case rel => exact ⟨j + 1, _, rfl, by omega, by go_num, HA6.out, HK2.out, by rw [List.length_append, List.length_singleton]; omega, HB6.out⟩
            | false =>
              have HK2 : Hid (acc ++ sub (t.drop (j + 1)) k = sub t k) := by
                have := HK.out
                rw [HSB.out] at this
                exact this
              clear HSB HK
              go_wp2_with fail
              go_roundg (n - (j + 1))
              case measure => omega
              case rel => exact ⟨j + 1, acc, rfl, by omega, by go_num, HA.out, HK2.out, by omega, HBQ.out⟩
          · obtain rfl : j = n := by omega
            have HACC : Hid (acc = sub t k) := by
              have := HK.out
              rw [drop_end t j (by rw [HN.out]; exact Nat.le_refl _)] at this
              unfold Hid
              simpa [sub] using this
            clear HK
            go_wp2_with (at_builtin; refine wpList_append_row _ rfl _ _ 25 rfl w.heap.size 22 e0 _ 1 24 Tryd.underlying25 he ez0 ez1 ez2 rfl (by omega) _ k vs rfl ?d1 (fun _ => True) (.slice (some ⟨wr.heap.size, 0, none⟩) 1 1) 1 [.slice Au acc.length au] rfl ?d2 ?d3 ?d4 ?d5 ?d6 ?_)
            case d1 => exact own_below HUQ.out.own ((Below.refl _ _).alloc (Nat.le_refl _) _)
            case d2 => exact row_blk (cs := [.slice Au acc.length au]) (Blk.new wr 22 _) rfl (by decide) trivial
            case d3 => intro u hu; simp at hu; subst hu; rfl
            case d4 => unfold maxLen; omega
            case d5 => omega
            case d6 => have := HUQ.out.below.size; simp; omega
            intro v' w6 hown hg hnil hat
            have HU6 : Hid (OutR w w1 w6 v' (.slice B j b) t (k + 1) (vs ++ [.slice Au acc.length au])) :=
              HU.out.more HBQ.out (by rw [← HACC.out]; exact HA.out) hown hg (by rw [World.size_alloc]; exact hat)
            clear hown hg hnil hat
            go_wp2_with fail
            go_roundg (M - (k + 1))
            case measure => omega
            case rel => exact ⟨k + 1, _, rfl, by omega, by go_num, HU6.out⟩
      · obtain rfl : k = M := by omega
        have HD := Lib.hid HU.out.done
        go_wp2_with fail
        go_ret
        obtain ⟨vs', d1, d2, d3⟩ := HD.out
        refine HR.out _ _ ⟨_, vs', rfl, ?_, ?_, d3⟩
        · rw [HSO.out, HM.out]; exact d1
        · rw [HSO.out, HM.out]; exact d2
end Go.Proofs.YtendihbndpahdaaDoor
