/- recastref6.has, Sorted: each once, rising. -/
import Derived.Test.YtendihbndpahdaaDoorTgSorted
import Derived.Test.YtendihbndpahdaaDoorTgPc
import Derived.Deep.QuietTactic
import Derived.BigQuiet
import Derived.Deep.LoopGhost
import Derived.WalkLawsBesides
namespace Go.Proofs.YtendihbndpahdaaDoor
open Go Go.RowKit Go.Sort Go.Lib

def HasRes (x : List UInt8) (l : List (List UInt8)) (w : World) (e : Ending) (w' : World) : Prop := ∃ r : Bool, (r = true ↔ x ∈ l) ∧ e = .returned (.bool r) ∧ w' = w

theorem enc_toList (a : List UInt8) : (⟨a.toArray⟩ : ByteArray).toList = a := by
  rw [ByteArray.toList_eq]
theorem enc_eq (a b : List UInt8) : ((⟨a.toArray⟩ : ByteArray).toList == (⟨b.toArray⟩ : ByteArray).toList) = decide (a = b) := by
  rw [enc_toList, enc_toList]
  by_cases h : a = b
  · simp [h]
  · simp [h]

set_option maxHeartbeats 1000000 in
theorem has_calls {l : List (List UInt8)} {x : List UInt8} {v : Value} {w : World} {S : Nat → Prop} (h : Row w S 1 v l.length (l.map encStr)) :
    Calls Tryd.prog 30 #[v, .string ⟨x.toArray⟩] w (HasRes x l w) := by
  have HRES : ∀ e W', HasRes x l w e W' → HasRes x l w e W' := fun _ _ h => h
  have HR := Lib.hid HRES
  clear HRES
  obtain ⟨A, cap, rfl, hlen⟩ := h.form
  have H := Lib.hid h
  clear h
  obtain ⟨n, hn⟩ : ∃ n, l.length = n := ⟨_, rfl⟩
  obtain ⟨s, hs⟩ : ∃ s : ByteArray, (⟨x.toArray⟩ : ByteArray) = s := ⟨_, rfl⟩
  have HN := Lib.hid hn
  have HSS := Lib.hid hs
  rw [hn] at hlen ⊢
  rw [hs]
  clear hn hs
  go_enter Tryd.func30, Tryd.ntmps30
  go_wp2_with fail
  go_loopg [5] n (fun d i wr => ∃ (j : Nat), d = n - j ∧ j ≤ n ∧ i = .int .i64 j ∧ Hid (x ∉ l.take j) ∧ wr = w)
  case atStart => exact ⟨0, by simp, by omega, rfl, (by simp [Hid]), rfl⟩
  case round =>
    obtain ⟨j, rfl, hj, rfl, HX, rfl⟩ := hrel
    by_cases hlt : j < n
    · obtain ⟨b, o, c, u, hv, hSb, hu, hc⟩ := H.out.at1 (by rw [HN.out]; exact hlt)
      have hjl : j < l.length := by rw [HN.out]; exact hlt
      rw [HN.out] at hv
      cases hv
      rw [List.getElem?_map, List.getElem?_eq_getElem hjl] at hu
      obtain ⟨t, ht⟩ : ∃ t : ByteArray, (⟨l[j].toArray⟩ : ByteArray) = t := ⟨_, rfl⟩
      have hu2 : u = .string t := by rw [← ht]; simpa [encStr] using hu.symm
      subst hu2
      have HE : Hid ((t.toList == s.toList) = decide (l[j] = x)) := by unfold Hid; rw [← ht, ← HSS.out]; exact enc_eq _ _
      clear hu ht hSb
      have hl1 : (j : Int) < (n : Int) := by omega
      cases hb : (t.toList == s.toList)
      · go_wp2_with fail
        go_roundg (n - (j + 1))
        case measure => omega
        case rel =>
          refine ⟨j + 1, rfl, by omega, by go_num, ?_, rfl⟩
          intro hm
          have hjl : j < l.length := by rw [HN.out]; exact hlt
          rw [List.take_succ_eq_append_getElem hjl, List.mem_append, List.mem_singleton] at hm
          rcases hm with hm | hm
          · exact HX.out hm
          · have := HE.out; rw [hb] at this; simp [hm] at this
      · go_wp2_with fail
        go_ret
        refine HR.out _ _ ⟨true, ?_, rfl, rfl⟩
        have hjl : j < l.length := by rw [HN.out]; exact hlt
        have := HE.out
        rw [hb] at this
        have e := of_decide_eq_true this.symm
        simp only [true_iff]
        rw [← e]
        exact List.getElem_mem hjl
    · obtain rfl : j = n := by omega
      go_wp2_with fail
      go_ret
      refine HR.out _ _ ⟨false, ?_, rfl, rfl⟩
      have := HX.out
      rw [← HN.out, List.take_length] at this
      simp [this]

theorem own_str {w : World} {base g n cap : Nat} {l : List (List UInt8)} (h : w.ownsRow base 9 1 (.slice (some ⟨g, 0, none⟩) n cap) n (l.map encStr)) {i : Nat} (hi : i < l.length) (hn : l.length = n) {s : ByteArray} (hs : (⟨l[i].toArray⟩ : ByteArray) = s) :
    w.cell? ⟨g, i, none⟩ = some (.string s) := by
  rw [h.cellAt _ (by omega)]
  simp [hi, encStr, hs]

theorem swap_own {W : World} {base g n cap m : Nat} {out : List (List UInt8)} {x : List UInt8} {s s2 : ByteArray} (ho : W.ownsRow base 9 1 (.slice (some ⟨g, 0, none⟩) n cap) n ((insK out x (m + 1)).map encStr)) (hm : m < out.length)
    (hs : (⟨x.toArray⟩ : ByteArray) = s) (hs2 : (⟨out[m].toArray⟩ : ByteArray) = s2) : ((W.setCell ⟨g, m + 1, none⟩ (.string s2)).setCell ⟨g, m, none⟩ (.string s)).ownsRow base 9 1 (.slice (some ⟨g, 0, none⟩) n cap) n ((insK out x m).map encStr) := by
  have h1 := ((ho.stored (m + 1) (.string s2)).1.stored m (.string s)).1
  rw [← insK_swap hm, List.map_set, List.map_set]
  have e1 : encStr out[m] = .string s2 := by rw [← hs2]
  have e2 : encStr x = .string s := by rw [← hs]
  rw [e1, e2]
  exact h1

set_option maxHeartbeats 4000000 in
set_option maxRecDepth 100000 in
theorem refSorted_calls {l : List (List UInt8)} {v : Value} {w : World} {S : Nat → Prop} (hlim : l.length * 16 ≤ 140737488355328) (h : Row w S 1 v l.length (l.map encStr)) (hS : Old S w) :
    Calls Tryd.prog 16 #[v] w (SortedRes l w) := by
  obtain ⟨i0, hi, iz0, iz1, iz2⟩ := info_parts info_str
  have HRES : ∀ e W', SortedRes l w e W' → SortedRes l w e W' := fun _ _ h => h
  have HR := Lib.hid HRES
  obtain ⟨A, cap, rfl, hlen⟩ := h.form
  have H := Lib.hid h
  have HS := Lib.hid hS
  clear h hS HRES
  have hlm : l.length ≤ 8796093022208 := by omega
  clear hlim
  go_enter Tryd.func16, Tryd.ntmps16
  go_wp2_with fail
  go_loopg [3, 4] l.length (fun d u iv wr => ∃ (i : Nat) (out : List (List UInt8)), d = l.length - i ∧ i ≤ l.length ∧ iv = .int .i64 i ∧ Hid (wr.ownsRow w.heap.size 9 1 u out.length (out.map encStr)) ∧ Hid (RefS l i out) ∧ Hid (Below w.heap.size w wr))
  case atStart => exact ⟨0, [], by simp, by omega, rfl, World.ownsRow_nil _ _ _ _, RefS.start l, Below.refl _ _⟩
  case round =>
    obtain ⟨i, out, rfl, hil, rfl, HO, HI, HBW⟩ := hrel
    rename World => wo
    obtain ⟨B, b, rfl⟩ := own_form HO.out
    have hzr := HBW.out.size
    have hol : out.length ≤ i := HI.out.len
    by_cases hlt : i < l.length
    · have HRW : Hid (Row wo S 1 (.slice A l.length cap) l.length (l.map encStr)) := H.out.keep (SameOn.of_below HBW.out HS.out)
      obtain ⟨b0, o0, c0, u, hv, -, hu, hc⟩ := HRW.out.at1 hlt
      cases hv
      rw [List.getElem?_map, List.getElem?_eq_getElem hlt] at hu
      obtain ⟨x, hx⟩ : ∃ x, l[i] = x := ⟨_, rfl⟩
      rw [hx] at hu
      obtain ⟨s, hs⟩ : ∃ s : ByteArray, (⟨x.toArray⟩ : ByteArray) = s := ⟨_, rfl⟩
      have hu2 : u = .string s := by rw [← hs]; simpa [encStr] using hu.symm
      subst hu2
      have HX := Lib.hid hx
      have HSS := Lib.hid hs
      clear hx hs hu HRW
      have hhas : Hid (Calls Tryd.prog 30 #[.slice B out.length b, .string s] wo (HasRes x out wo)) := by
        unfold Hid; rw [← HSS.out]; exact has_calls (S := fun _ => True) (Row.of_own HO.out (fun _ _ => trivial))
      go_wp2_with fail
      refine hhas.out.mono ?_
      rintro e w1 ⟨r, hr, rfl, hw⟩
      subst w1
      have HRR := Lib.hid hr
      clear hr hhas
      cases r with
      | true =>
        have HI2 : Hid (RefS l (i + 1) out) := HI.out.twice hlt (by rw [HX.out]; exact HRR.out.1 rfl)
        clear HRR
        go_wp2_with fail
        go_roundg (l.length - (i + 1))
        case measure => omega
        case rel => exact ⟨i + 1, out, rfl, by omega, by go_num, HO.out, HI2.out, HBW.out⟩
      | false =>
        have HNI : Hid (l[i] ∉ out) := fun hm => by rw [HX.out] at hm; exact absurd (HRR.out.2 hm) (by simp)
        clear HRR
        go_wp2_with (at_builtin; refine wpList_append_row _ rfl _ _ 22 rfl w.heap.size 9 i0 _ 1 16 Tryd.underlying22 hi iz0 iz1 iz2 rfl (by omega) _ out.length (out.map encStr) rfl ?c1 (fun _ => True) (.slice (some ⟨wo.heap.size, 0, none⟩) 1 1) 1 [.string s] rfl ?c2 ?c3 ?c4 ?c5 ?c6 ?_)
        case c1 => exact own_below HO.out ((Below.refl _ _).alloc (Nat.le_refl _) _)
        case c2 => exact row_blk (cs := [.string s]) (Blk.new wo 9 _) rfl (by decide) trivial
        case c3 => intro u hu; simp at hu; subst hu; rfl
        case c4 => unfold maxLen; omega
        case c5 => omega
        case c6 => simp; omega
        intro v' w6 hown hg hnil hat
        have HB6 : Hid (Below w.heap.size w w6) := (HBW.out.alloc hzr _).grown hg (by simp; omega) (own_ge HO.out)
        have HO6 : Hid (w6.ownsRow w.heap.size 9 1 v' (out.length + 1) ((insK out x out.length).map encStr)) := by
          unfold Hid; rw [insK_end, List.map_append]
          have e : [encStr x] = [Value.string s] := by rw [← HSS.out]
          rw [List.map_cons, List.map_nil, e]; exact hown
        clear hown hg hnil hat
        obtain ⟨g, c2, hv6, -⟩ := HO6.out.form (by omega)
        subst hv6
        go_wp2_with fail
        go_loopg [5] out.length (fun d kv wp => ∃ (k : Nat), d = k + 0 ∧ k ≤ out.length ∧ kv = .int .i64 k ∧ Hid (∀ y ∈ out.drop k, x < y) ∧ Hid (wp.ownsRow w.heap.size 9 1 (.slice (some ⟨g, 0, none⟩) (out.length + 1) c2) (out.length + 1) ((insK out x k).map encStr)) ∧ Hid (Below w.heap.size w wp))
        case atStart => exact ⟨out.length, rfl, by omega, by go_num, (by simp [Hid]), HO6.out, HB6.out⟩
        case round =>
          clear HO6 HB6
          obtain ⟨k, hdk, hk, rfl, HD, HK, HBK⟩ := hrel
          have hzk := HBK.out.size
          by_cases hk0 : k = 0
          · subst hk0
            have HI2 : Hid (RefS l (i + 1) (insK out l[i] 0)) := HI.out.more hlt HNI.out hk (by rw [HX.out]; exact HD.out) (fun h0 => absurd h0 (Nat.lt_irrefl 0))
            have HK2 : Hid (wr.ownsRow w.heap.size 9 1 (.slice (some ⟨g, 0, none⟩) (out.length + 1) c2) (insK out l[i] 0).length ((insK out l[i] 0).map encStr)) := by unfold Hid; rw [insK_len hk, HX.out]; exact HK.out
            have hd0 : decide (0 < (0 : Nat)) = false := rfl
            go_wp2_with fail
            go_quiet (fail)
            go_wp2_with fail
            go_roundg (l.length - (i + 1))
            case measure => omega
            case rel => exact ⟨i + 1, _, rfl, by omega, by go_num, own_below HK2.out (below_drewN (Below.refl _ _) _), HI2.out, below_drewN HBK.out _⟩
          · obtain ⟨m, hkm⟩ : ∃ m, k = m + 1 := ⟨k - 1, by omega⟩
            subst hkm
            obtain ⟨y, hy⟩ : ∃ y, out[m] = y := ⟨_, rfl⟩
            obtain ⟨s2, hs2⟩ : ∃ s2 : ByteArray, (⟨y.toArray⟩ : ByteArray) = s2 := ⟨_, rfl⟩
            have a1 : wr.cell? ⟨g, m, none⟩ = some (.string s2) := own_str HK.out (i := m) (by rw [insK_len hk]; omega) (insK_len hk) (by rw [insK_lt hk (by omega), hy]; exact hs2)
            have a2 : wr.cell? ⟨g, m + 1, none⟩ = some (.string s) := own_str HK.out (i := m + 1) (by rw [insK_len hk]; omega) (insK_len hk) (by rw [insK_self hk]; exact HSS.out)
            have HLT : Hid ((!(Op.bytesLess s2.toList s.toList || s2.toList == s.toList)) = decide (x < y)) := by
              unfold Hid
              rw [← hs2, ← HSS.out, enc_eq, bytesLess_eq, enc_toList, enc_toList]
              by_cases h : x < y
              · have h1 : ¬ y < x := fun h1 => List.lt_irrefl x (List.lt_trans h h1)
                have h2 : ¬ y = x := fun h2 => List.lt_irrefl x (h2 ▸ h)
                simp [h, h1, h2]
              · rw [decide_eq_false h]
                by_cases h2 : y = x
                · simp [h2]
                · have h1 : y < x := by
                    rcases List.le_iff_lt_or_eq.1 (Std.not_lt.1 h) with h3 | h3
                    · exact h3
                    · exact absurd h3 h2
                  simp [h1]
            have HY := Lib.hid hy
            have HS2 := Lib.hid hs2
            clear hy hs2 hk0
            have hd0 : decide (0 < m + 1) = true := by simp
            have hm1 : ((m + 1 : Nat) : Int) - 1 = (m : Int) := by omega
            have hidx : m < out.length + 1 := by omega
            by_cases hxy : x < y
            · have hT := HLT.out
              rw [decide_eq_true hxy] at hT
              have hf1 := HK.out.frozenAt (m + 1)
              have hf2 := HK.out.frozenAt m
              go_wp2_with fail
              go_quiet (fail)
              go_wp2_with fail
              go_roundg (m + 0)
              case measure => omega
              case rel =>
                refine ⟨m, rfl, by omega, by go_num, ?_, swap_own (own_below HK.out (below_drewN (Below.refl _ _) _)) (by omega) HSS.out (by rw [HY.out]; exact HS2.out), ((below_drewN HBK.out _).setCell (HK.out.lt g rfl).1 _).setCell (HK.out.lt g rfl).1 _⟩
                intro z hz
                rw [drop_at out m (by omega)] at hz
                rcases List.mem_cons.1 hz with rfl | hz
                · rw [HY.out]; exact hxy
                · exact HD.out z hz
            · have hT := HLT.out
              rw [decide_eq_false hxy] at hT
              go_wp2_with fail
              go_quiet (fail)
              go_wp2_with fail
              have HI2 : Hid (RefS l (i + 1) (insK out l[i] (m + 1))) := HI.out.more hlt HNI.out hk (by rw [HX.out]; exact HD.out) (fun h0 => by rw [HX.out]; simp only [Nat.add_sub_cancel]; rw [HY.out]; exact hxy)
              have HK2 : Hid (wr.ownsRow w.heap.size 9 1 (.slice (some ⟨g, 0, none⟩) (out.length + 1) c2) (insK out l[i] (m + 1)).length ((insK out l[i] (m + 1)).map encStr)) := by unfold Hid; rw [insK_len hk, HX.out]; exact HK.out
              go_roundg (l.length - (i + 1))
              case measure => omega
              case rel => exact ⟨i + 1, _, rfl, by omega, by go_num, own_below HK2.out (below_drewN (Below.refl _ _) _), HI2.out, below_drewN HBK.out _⟩
    · obtain rfl : i = l.length := by omega
      go_wp2_with fail
      go_ret
      have he : out = cs l := HI.out.done
      subst he
      exact HR.out _ _ ⟨_, rfl, HO.out, HBW.out⟩
end Go.Proofs.YtendihbndpahdaaDoor
