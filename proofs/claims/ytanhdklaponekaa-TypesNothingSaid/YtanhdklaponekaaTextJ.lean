/- types.join: the texts of a list with something between. -/
import Derived.Test.YtanhdklaponekaaTextK
namespace Go.Proofs.Ytanhdklaponekaa
open Go Go.RowKit

/-- Text's contract at t, its answer f t -/
def TxtAt (f : T → ByteArray) (t : T) : Prop := ∀ (cs : List Value) (w : World) (S : Nat → Prop), t.ok → TyR w S t cs → Old S w → (f t).size ≤ Lim →
  Calls Try.prog 22 #[.agg cs.toArray] w fun e w' => e = .returned (.string (f t)) ∧ Below w.heap.size w w'

/-- the first j of a row of strings -/
def Strs (g : Nat → ByteArray) (j : Nat) : List Value := ((List.range j).map g).map .string
theorem Strs.succ (g : Nat → ByteArray) (j : Nat) : Strs g (j + 1) = Strs g j ++ [.string (g j)] := by
  unfold Strs; rw [List.range_succ]; simp
theorem Strs.len (g : Nat → ByteArray) (j : Nat) : (Strs g j).length = j := by simp [Strs]
theorem strs_row {w : World} {base : Nat} {e : TypeId} {v : Value} {g : Nat → ByteArray} {n : Nat} (h : w.ownsRow base e 1 v n (Strs g n)) :
    Row w (fun b => v.ownBlock = some b) 1 v ((List.range n).map g).length (((List.range n).map g).map .string) := by
  have e : ((List.range n).map g).length = n := by simp
  rw [e]
  exact Row.of_own h (fun _ hb => hb)
theorem range_map {α β : Type} (l : List α) (z : α) (f : α → β) : (List.range l.length).map (fun i => f ((l[i]?).getD z)) = l.map f := by
  apply List.ext_getElem
  · simp
  · intro i h1 h2
    simp at h1
    simp [List.getElem?_eq_getElem h1]

set_option maxHeartbeats 2000000 in
theorem join_calls {f : T → ByteArray} {ts : List T} {v : Value} {sep : ByteArray} {w : World} {S : Nat → Prop} (ih : ∀ t ∈ ts, TxtAt f t) (hok : T.okL ts) (hlim : ts.length * 112 ≤ Lim) (hr : RowT w S v ts) (hS : Old S w)
    (hb : (joinF f ts sep).size ≤ Lim) : Calls Try.prog 53 #[v, .string sep] w fun e w' => e = .returned (.string (joinF f ts sep)) ∧ Below w.heap.size w w' := by
  obtain ⟨i0, hi, iz0, iz1, iz2⟩ := info_parts info_strs
  obtain ⟨A, cap, rfl, hlen⟩ := hr.form
  have HS := Lib.hid hS
  have HR := Lib.hid hr
  have HO := Lib.hid hok
  have IH := Lib.hid ih
  have HB := Lib.hid hb
  have hlim2 : ts.length ≤ 1256584717458 := by unfold Lim at hlim; omega
  clear hr hS hok ih hlim hb
  go_enter Try.func53, Try.ntmps53
  go_wp2_with fail
  go_loopg [5, 10] ts.length (fun m u i wr => ∃ (j : Nat) (v : Value), m = ts.length - j ∧ j ≤ ts.length ∧ i = .int .i64 j ∧ v = u ∧ Hid (wr.ownsRow w.heap.size 9 1 v j (Strs (fun i => f ((ts[i]?).getD T.zero)) j)) ∧ Below w.heap.size w wr)
  case atStart => exact ⟨0, _, by simp, by omega, rfl, rfl, World.ownsRow_nil _ _ _ _, Below.refl _ _⟩
  case round =>
    obtain ⟨j, v, rfl, hj, rfl, rfl, HOW, hb⟩ := hrel
    by_cases hlt : j < ts.length
    · have hr := HR.out.keep (SameOn.of_below hb HS.out) (fun _ h => h)
      obtain ⟨b, o, c, A1, c1, A2, c2, A3, c3, hv, hSb, ⟨g0, g1, g2, g3, g4, g5, g6⟩, hkr⟩ := hr.at_ hlt
      cases hv
      have HKR := Lib.hid hkr
      have hzr := hb.size
      have hle : Hid ((f ts[j]).size ≤ Lim) := Nat.le_trans (joinB_ge (List.mem_map_of_mem (List.getElem_mem hlt))) HB.out
      clear hkr hr
      go_wp2_with fail
      refine (IH.out ts[j] (List.getElem_mem hlt) [.int .i64 ts[j].kd, .string ts[j].nm, .int .i64 ts[j].n, .bool ts[j].fl, .slice A1 ts[j].ns.length c1, .slice A2 ts[j].ms.length c2, .slice A3 ts[j].ks.length c3] _ S (okL_at HO.out hlt) (HKR.out.keep ?s1 (fun _ h => h)) ?s2 hle.out).mono ?_
      case s1 => exact (SameOn.refl _ _).alloc (HS.out.below hb) _
      case s2 => exact (HS.out.below hb).below ((Below.refl _ _).alloc (Nat.le_refl _) _)
      rintro e w1 ⟨rfl, hb1⟩
      have hz1 := hb1.size
      simp at hz1
      have hbw1 : Below w.heap.size w w1 := (hb.alloc hzr _).trans (hb1.mono (by simp; omega))
      have HBR := Lib.hid ((Below.refl wr.heap.size wr).alloc (Nat.le_refl _) (.cells #[.int .i64 ts[j].kd, .string ts[j].nm, .int .i64 ts[j].n, .bool ts[j].fl, .slice A1 ts[j].ns.length c1, .slice A2 ts[j].ms.length c2, .slice A3 ts[j].ks.length c3] 26))
      have HB1 := Lib.hid hb1
      clear hb1
      go_wp2_with (at_builtin; (refine wpList_append_row _ rfl _ _ 22 rfl w.heap.size 9 i0 _ 1 16 Try.underlying22 hi iz0 iz1 iz2 rfl (by omega) v j (Strs (fun i => f ((ts[i]?).getD T.zero)) j) rfl ?c1 (fun b => b = w1.heap.size) (.slice (some ⟨w1.heap.size, 0, none⟩) 1 1) 1 [.string (f ts[j])] rfl ?c2 ?c3 ?c4 ?c5 ?c6 ?_))
      case c1 => exact (own_below (own_below HOW.out HBR.out) HB1.out).alloc _
      case c2 => exact row_lit w1 _ 1 rfl (by unfold maxLen; omega)
      case c3 => intro u hu; simp at hu; subst hu; rfl
      case c4 => unfold maxLen; omega
      case c5 => omega
      case c6 => simp; have := hbw1.size; omega
      intro v' w2 hown hg hnil hat
      have hst : w2.ownsRow w.heap.size 9 1 v' (j + 1) (Strs (fun i => f ((ts[i]?).getD T.zero)) (j + 1)) := by
        rw [Strs.succ, List.getElem?_eq_getElem hlt]
        exact hown
      have HON := Lib.hid hst
      have hbn : Below w.heap.size w w2 := (hbw1.alloc hbw1.size _).grown hg (by simp; have := hbw1.size; omega) (fun k hk => (HOW.out.lt k hk).1)
      clear hst hown hg hnil hat
      go_wp2_with fail
      go_roundg (ts.length - (j + 1))
      case measure => omega
      case rel => exact ⟨j + 1, _, rfl, by omega, by go_num, rfl, HON, hbn⟩
    · obtain rfl : j = ts.length := by omega
      have hty := strs_row HOW.out
      rw [range_map] at hty
      have HT := Lib.hid hty
      have hol := fun b (hb : v.ownBlock = some b) => (HOW.out.lt b hb).2
      have HOL := Lib.hid hol
      have hll : (ts.map f).length ≤ Lim := by simp; unfold Lim; omega
      have HLL := Lib.hid hll
      have e2 : (ts.map f).length = ts.length := by simp
      rw [e2] at HT
      have HE := Lib.hid e2
      clear hty hlt hj HOW hll hol e2
      go_wp2_with fail
      refine (join_any (sep := sep) (by rw [HE.out]; exact HT.out) HOL.out HLL.out HB.out).mono ?_
      rintro e w' ⟨rfl, hb'⟩
      have HBB := Lib.hid (hb.trans (hb'.mono hb.size))
      clear hb'
      go_wp2_with fail
      go_ret
      exact ⟨rfl, HBB.out⟩
end Go.Proofs.Ytanhdklaponekaa
