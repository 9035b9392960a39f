/- The rows of methods.rows as plain lists; Lookup's closure. -/
import Derived.Test.YtanhdklaponekaaMtS
namespace Go.Proofs.Ytanhdklaponekaa
open Go Go.RowKit

def pAt (ps : List (T × List Int)) (j : Nat) : T × List Int := (ps[j]?).getD (T0, [])
structure RS where
  row : List (ByteArray × Fd)
  nx : List (T × List Int)
  met : List ByteArray
def inM (met : List ByteArray) (s : ByteArray) : Bool := met.any fun x => decide (x = s)
/-- behind j places -/
def rowAt (L : List Nd) (U : T → T) (ps : List (T × List Int)) (met : List ByteArray) : Nat → RS
  | 0 => ⟨[], [], met⟩
  | j + 1 => if (pAt ps j).1.kd = 8 ∧ inM (rowAt L U ps met j).met (pAt ps j).1.nm = true then rowAt L U ps met j
      else ⟨(rowAt L U ps met j).row ++ stAll L U (pAt ps j), (rowAt L U ps met j).nx ++ stNext U (pAt ps j), if (pAt ps j).1.kd = 8 then (pAt ps j).1.nm :: (rowAt L U ps met j).met else (rowAt L U ps met j).met⟩
def hitsP (name : ByteArray) (df : Bool) (row : List (ByteArray × Fd)) : List Fd := (row.filter fun x => decide (x.1 = name)).map fun x => { x.2 with df := df }
theorem hits_snoc (name : ByteArray) (df : Bool) (l : List (ByteArray × Fd)) (x : ByteArray × Fd) : hitsP name df (l ++ [x]) = hitsP name df l ++ (if x.1 = name then [{ x.2 with df := df }] else []) := by
  unfold hitsP
  rw [List.filter_append, List.map_append]
  by_cases h : x.1 = name
  · simp [h]
  · simp [h]
theorem hits_len (name : ByteArray) (df : Bool) (l : List (ByteArray × Fd)) : (hitsP name df l).length ≤ l.length := by
  unfold hitsP
  rw [List.length_map]
  exact List.length_filter_le _ _
theorem info_found : (Try.prog.info? 58).map (fun i => (i.zero, i.size, i.bytes)) = some (some (.agg #[.int .i64 0, .string ByteArray.empty, .int .i64 0, .string ByteArray.empty, .int .i64 0, .bool false, .slice none 0 0, .slice none 0 0, .slice none 0 0, .slice none 0 0, .bool false, .bool false]), 12, 168) := by kernel_rfl

/-- a named thing of a row, cell by cell -/
theorem nfAt {w : World} {S : Nat → Prop} {v : Value} {l : List (ByteArray × Fd)} {xs : List Value} (h : Row w S 13 v l.length xs) (ha : AllR (NfR w S) l xs) {i : Nat} (hi : i < l.length) :
    ∃ b o cap A1 c1 A2 c2 A3 c3 A4 c4, v = .slice (some ⟨b, o, none⟩) l.length cap ∧ S b ∧
      FdR w S l[i].2 [.int .i64 l[i].2.kd, .string l[i].2.ow, .int .i64 l[i].2.ty.kd, .string l[i].2.ty.nm, .int .i64 l[i].2.ty.n, .bool l[i].2.ty.fl, .slice A1 l[i].2.ty.ns.length c1, .slice A2 l[i].2.ty.ms.length c2, .slice A3 l[i].2.ty.ks.length c3, .slice A4 l[i].2.pa.length c4, .bool l[i].2.p, .bool l[i].2.df] ∧
      w.cell? ⟨b, o + i * 13, none⟩ = some (.string l[i].1) ∧ w.cell? ⟨b, o + i * 13 + 1, none⟩ = some (.int .i64 l[i].2.kd) ∧ w.cell? ⟨b, o + i * 13 + 2, none⟩ = some (.string l[i].2.ow) ∧
      w.cell? ⟨b, o + i * 13 + 3, none⟩ = some (.int .i64 l[i].2.ty.kd) ∧ w.cell? ⟨b, o + i * 13 + 4, none⟩ = some (.string l[i].2.ty.nm) ∧ w.cell? ⟨b, o + i * 13 + 5, none⟩ = some (.int .i64 l[i].2.ty.n) ∧
      w.cell? ⟨b, o + i * 13 + 6, none⟩ = some (.bool l[i].2.ty.fl) ∧ w.cell? ⟨b, o + i * 13 + 7, none⟩ = some (.slice A1 l[i].2.ty.ns.length c1) ∧ w.cell? ⟨b, o + i * 13 + 8, none⟩ = some (.slice A2 l[i].2.ty.ms.length c2) ∧
      w.cell? ⟨b, o + i * 13 + 9, none⟩ = some (.slice A3 l[i].2.ty.ks.length c3) ∧ w.cell? ⟨b, o + i * 13 + 10, none⟩ = some (.slice A4 l[i].2.pa.length c4) ∧ w.cell? ⟨b, o + i * 13 + 11, none⟩ = some (.bool l[i].2.p) ∧
      w.cell? ⟨b, o + i * 13 + 12, none⟩ = some (.bool l[i].2.df) := by
  obtain ⟨b, o, cap, cs, hv, hSb, hm, hc⟩ := row_all_at h ha (k := 13) (fun _ _ h => h.len) hi
  obtain ⟨A1, c1, A2, c2, A3, c3, A4, c4, rfl, ht⟩ := hm.forms
  exact ⟨b, o, cap, A1, c1, A2, c2, A3, c3, A4, c4, hv, hSb, ht, hc 0 _ rfl, hc 1 _ rfl, hc 2 _ rfl, hc 3 _ rfl, hc 4 _ rfl, hc 5 _ rfl, hc 6 _ rfl, hc 7 _ rfl, hc 8 _ rfl, hc 9 _ rfl, hc 10 _ rfl, hc 11 _ rfl, hc 12 _ rfl⟩

/-- what Lookup has found: the variable's block ob, the slice v; the types in the blocks of S -/
structure OutV (w : World) (S : Nat → Prop) (ob B : Nat) (v : Value) (l : List Fd) (xs : List Value) : Prop where
  var : Blk w ob 91 #[v]
  own : w.ownsRow B 58 12 v l.length xs
  data : AllR (FdR w S) l xs
  base : B ≤ w.heap.size

theorem OutV.below {w w' : World} {S : Nat → Prop} {ob B : Nat} {v : Value} {l : List Fd} {xs : List Value} (h : OutV w S ob B v l xs) (hS : ∀ b, S b → b < w.heap.size) (hb : Below w.heap.size w w') : OutV w' S ob B v l xs :=
  ⟨h.var.below hb h.var.lt, own_below h.own hb, h.data.imp fun _ _ k => k.keep (SameOn.of_below hb hS) (fun _ h => h), Nat.le_trans h.base hb.size⟩

set_option maxHeartbeats 4000000 in
set_option maxRecDepth 100000 in
theorem lookup1_calls {w : World} {S : Nat → Prop} {nb db ob : Nat} {name : ByteArray} {df : Bool} {v : Value} {l : List (ByteArray × Fd)} {xs : List Value} (hn : w.cell? ⟨nb, 0, none⟩ = some (.string name)) (hd : w.cell? ⟨db, 0, none⟩ = some (.bool df))
    (ho : Blk w ob 91 #[.slice none 0 0]) (hr : Row w S 13 v l.length xs) (ha : AllR (NfR w S) l xs) (hS : ∀ b, S b → b < w.heap.size ∧ b ≠ ob) (hnb : nb < w.heap.size ∧ nb ≠ ob) (hdb : db < w.heap.size ∧ db ≠ ob) (hl : l.length ≤ 100000000000) :
    Calls Try.prog 68 #[v, .pointer (some ⟨nb, 0, none⟩), .pointer (some ⟨db, 0, none⟩), .pointer (some ⟨ob, 0, none⟩)] w fun e w' => e = .returned (.bool (decide ((hitsP name df l).length = 0))) ∧
      ∃ vo xo, OutV w' S ob w.heap.size vo (hitsP name df l) xo ∧ But (fun b => b = ob) w w' ∧ (hitsP name df l = [] → vo = .slice none 0 0) := by
  obtain ⟨A, cap, rfl, hl2⟩ := hr.form
  have hol := ho.lt
  have HR := Lib.hid hr
  have HA := Lib.hid ha
  have HS := Lib.hid hS
  have HN := Lib.hid hn
  have HD := Lib.hid hd
  have HO := Lib.hid ho
  have HNB := Lib.hid hnb
  have HDB := Lib.hid hdb
  clear hr ha hS hn hd ho hnb hdb
  go_enter Try.func68, Try.ntmps68
  go_wp2_with fail
  go_loopg [10] l.length (fun m i wr => ∃ (j : Nat) (vo : Value) (xo : List Value), m = l.length - j ∧ j ≤ l.length ∧ i = .int .i64 j ∧ Hid (OutV wr S ob w.heap.size vo (hitsP name df (l.take j)) xo) ∧ Hid (But (fun b => b = ob) w wr) ∧ Hid (hitsP name df (l.take j) = [] → vo = .slice none 0 0))
  case atStart => exact ⟨0, .slice none 0 0, [], by simp, by omega, rfl, ⟨HO.out, World.ownsRow_nil _ _ _ _, rfl, Nat.le_refl _⟩, But.refl _ _, fun _ => rfl⟩
  case round =>
    obtain ⟨j, vo, xo, rfl, hj, rfl, HV, HB, HNI⟩ := hrel
    have hzr := HB.out.size
    have hsm : SameOn S w wr := HB.out.sameOn fun b hb => HS.out b hb
    have hc0 : wr.cell? ⟨ob, 0, none⟩ = some vo := HV.out.var.cell 0
    have hf0 := HV.out.var.frozen 0
    have hcn : wr.cell? ⟨nb, 0, none⟩ = some (.string name) := (World.cell?_of_block (a := ⟨nb, 0, none⟩) (HB.out.block nb HNB.out.1 HNB.out.2)).trans HN.out
    have hcd : wr.cell? ⟨db, 0, none⟩ = some (.bool df) := (World.cell?_of_block (a := ⟨db, 0, none⟩) (HB.out.block db HDB.out.1 HDB.out.2)).trans HD.out
    by_cases hlt : j < l.length
    · obtain ⟨b, o, cap', A1, c1, A2, c2, A3, c3, A4, c4, hv, hSb, hfd, q0, q1, q2, q3, q4, q5, q6, q7, q8, q9, q10, q11, q12⟩ := nfAt (HR.out.keep hsm) (HA.out.imp fun _ _ k => k.keep hsm (fun _ h => h)) hlt
      cases hv
      have HFD := Lib.hid hfd
      have HSM := Lib.hid hsm
      clear hsm hfd
      have hj3 : (j : Int) < (l.length : Int) := by omega
      have hbl : b < wr.heap.size := Nat.lt_of_lt_of_le (HS.out b hSb).1 hzr
      have hnl : nb < wr.heap.size := Nat.lt_of_lt_of_le HNB.out.1 hzr
      have hdl : db < wr.heap.size := Nat.lt_of_lt_of_le HDB.out.1 hzr
      have holr : ob < wr.heap.size := by omega
      clear hSb
      by_cases he : l[j].1 = name
      · have hbe : (l[j].1.toList == name.toList) = true := by rw [bytes_eq]; simpa using he
        have HH : Hid (hitsP name df (l.take (j + 1)) = hitsP name df (l.take j) ++ [{ l[j].2 with df := df }]) := by
          rw [List.take_succ_eq_append_getElem hlt, hits_snoc, if_pos he]; exact rfl
        obtain ⟨i0, hi, hz0, hz1, hz2⟩ := info_parts info_found
        have hll := hits_len name df (l.take j)
        rw [List.length_take] at hll
        have hne : vo.ownBlock ≠ some ob := own_blk HV.out.own HV.out.var (by decide)
        have HNE := Lib.hid hne
        have HHL := Lib.hid (hits_len name df (l.take j))
        clear he hne hll
        go_wp2_with (at_builtin; refine wpList_append_row _ rfl _ _ 91 rfl w.heap.size 58 i0 _ 12 168 Try.underlying91 hi hz0 hz1 hz2 rfl (by omega) vo (hitsP name df (l.take j)).length xo rfl ?c1 (fun b => b = wr.heap.size + 1) (.slice (some ⟨wr.heap.size + 1, 0, none⟩) 1 1) 1 [.int .i64 l[j].2.kd, .string l[j].2.ow, .int .i64 l[j].2.ty.kd, .string l[j].2.ty.nm, .int .i64 l[j].2.ty.n, .bool l[j].2.ty.fl, .slice A1 l[j].2.ty.ns.length c1, .slice A2 l[j].2.ty.ms.length c2, .slice A3 l[j].2.ty.ks.length c3, .slice A4 l[j].2.pa.length c4, .bool l[j].2.p, .bool df] rfl ?c2 ?c3 ?c4 ?c5 ?c6 ?_)
        case c1 => exact own_below HV.out.own ((below_al _ _).alloc (by simp) _)
        case c2 => simpa using row_lit (wr.alloc _) _ 1 rfl (by unfold maxLen; omega)
        case c3 => exact ⟨rfl, rfl, rfl, rfl, rfl, rfl, rfl, rfl, rfl, rfl, rfl, rfl⟩
        case c4 => have := HHL.out; rw [List.length_take] at this; unfold maxLen; omega
        case c5 => have := HHL.out; rw [List.length_take] at this; omega
        case c6 => omega
        intro v' w2 hown hg hnil hat
        have hb2 : But (fun b => b = ob ∨ vo.ownBlock = some b) wr w2 := ((But.refl _ _).alloc _ |>.alloc _).trans (But.of_grown hg fun b hb => .inr hb) fun _ _ h => h
        have hvar2 : Blk w2 ob 91 #[vo] := ((HV.out.var.alloc _).alloc _).grown hg (fun e => HNE.out e.symm)
        have hk2 : w2.cell? ⟨ob, 0, none⟩ = some vo := hvar2.cell 0
        have hf2 := hvar2.frozen 0
        have hne' : v'.ownBlock ≠ some ob := by
          rcases hat with e | e
          · rw [e]; exact HNE.out
          · rw [e]; intro e2; simp at e2; omega
        have hz2 := hb2.size
        have hS2 : ∀ b, S b → b < wr.heap.size ∧ ¬ (b = ob ∨ vo.ownBlock = some b) := fun b hb => ⟨Nat.lt_of_lt_of_le (HS.out b hb).1 hzr, fun e => e.elim (HS.out b hb).2 (fun e => by have := (HV.out.own.lt b e).1; have := (HS.out b hb).1; omega)⟩
        have hs2 : SameOn S wr (w2.setCell ⟨ob, 0, none⟩ v') := (hb2.sameOn hS2).set_ (fun hn => (HS.out _ hn).2 rfl) _
        have HFIN : Hid (OutV (w2.setCell ⟨ob, 0, none⟩ v') S ob w.heap.size v' (hitsP name df (l.take (j + 1))) (xo ++ [.int .i64 l[j].2.kd, .string l[j].2.ow, .int .i64 l[j].2.ty.kd, .string l[j].2.ty.nm, .int .i64 l[j].2.ty.n, .bool l[j].2.ty.fl, .slice A1 l[j].2.ty.ns.length c1, .slice A2 l[j].2.ty.ms.length c2, .slice A3 l[j].2.ty.ks.length c3, .slice A4 l[j].2.pa.length c4, .bool l[j].2.p, .bool df])) := by
          rw [HH.out]
          refine ⟨by simpa using hvar2.set_ 0 v', own_same (by rw [List.length_append]; exact hown) fun b hb => Below.heap_setCell _ _ _ _ (fun e => hne' (by rw [hb, e])), ?_, by simp; omega⟩
          refine (HV.out.data.imp fun _ _ k => k.keep hs2 (fun _ h => h)).append (AllR.one ?_)
          obtain ⟨ct, vp, e, h1, h2⟩ := HFD.out.keep hs2 (fun _ h => h)
          obtain ⟨X1, y1, X2, y2, X3, y3, rfl, _⟩ := h1.forms
          simp only [List.cons_append, List.nil_append, List.cons.injEq] at e
          obtain ⟨-, -, -, -, -, -, e1, e2, e3, e4, -⟩ := e
          refine ⟨_, vp, ?_, h1, h2⟩
          simp only [List.cons_append, List.nil_append, e1, e2, e3, e4]
        have HBF : Hid (But (fun b => b = ob) w (w2.setCell ⟨ob, 0, none⟩ v')) := by
          refine (HB.out.trans hb2 fun i hi e => ?_).set_ (.inr rfl) _
          exact e.elim id (fun e => by have := (HV.out.own.lt i e).1; omega)
        obtain ⟨A5, c5, rfl⟩ := own_form hown
        clear hb2 hvar2 hne' hown hg hnil hat hs2 hS2 hi hz0 hz1 hz2
        go_wp2_with fail
        go_roundg (l.length - (j + 1))
        case measure => omega
        case rel => exact ⟨j + 1, _, _, rfl, by omega, by go_num, HFIN, HBF, fun e => absurd e (by rw [HH.out]; simp)⟩
      · have hbe : (l[j].1.toList == name.toList) = false := by rw [bytes_eq]; simpa using he
        have HH : Hid (hitsP name df (l.take (j + 1)) = hitsP name df (l.take j)) := by
          rw [List.take_succ_eq_append_getElem hlt, hits_snoc, if_neg he, List.append_nil]; exact rfl
        clear he
        go_wp2_with fail
        go_roundg (l.length - (j + 1))
        case measure => omega
        case rel =>
          refine ⟨j + 1, vo, xo, rfl, by omega, by go_num, ?_, HB.out.alloc _, by rw [HH.out]; exact HNI⟩
          rw [HH.out]
          exact HV.out.below (fun b hb => Nat.lt_of_lt_of_le (HS.out b hb).1 hzr) (below_al _ _)
    · obtain rfl : j = l.length := by omega
      have hv := HV.out
      rw [List.take_of_length_le (Nat.le_refl _)] at hv
      have HVF := Lib.hid hv
      have hni := HNI.out
      rw [List.take_of_length_le (Nat.le_refl _)] at hni
      have HNJ := Lib.hid hni
      clear hni HNI
      obtain ⟨A5, c5, rfl⟩ := own_form hv.own
      obtain ⟨n, hn⟩ : ∃ n, (hitsP name df l).length = n := ⟨_, rfl⟩
      have HNN := Lib.hid hn
      rw [hn] at hc0
      clear hv hn hsm hcn hcd hlt hj
      go_wp2_with fail
      go_ret
      refine ⟨?_, _, _, HVF.out, HB.out, HNJ.out⟩
      rw [HNN.out]
      show Ending.returned (.bool ((n : Int) == 0)) = _
      have : ((n : Int) == 0) = decide (n = 0) := by
        by_cases h : n = 0
        · subst h; rfl
        · rw [decide_eq_false h]; simp; omega
      rw [this]
end Go.Proofs.Ytanhdklaponekaa
