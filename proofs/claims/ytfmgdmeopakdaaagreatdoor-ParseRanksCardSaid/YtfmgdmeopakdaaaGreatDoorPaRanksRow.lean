/- Proved: recastlaw5.ParseRanks returns true for every slice of ints, and its arguments read behind the call as before; the tied card. Conditions: those of the row (loops, recursion, calls not followed; the listed tables of unicode/utf8 read as listed), and what an argument reads fits into the machine's reach. -/
import Derived.Test.YtfmgdmeopakdaaaGreatDoorMR1
import Derived.Test.YtfmgdmeopakdaaaGreatDoorMC1
import Derived.Test.YtfmgdmeopakdaaaGreatDoorCards
import Derived.Test.YtfmgdmeopakdaaaGreatDoorTie
set_option linter.unusedVariables false
set_option linter.unusedSimpArgs false
namespace Go.Proofs.YtfmgdmeopakdaaaGreatDoor
open Go Go.RowKit Go.ChangeShapes Go.WideShapes Go.ChangeAt
def laidV : List (String × DataW Unit) := [("unicode/utf8.acceptRanges", Rows.laid_unicode_utf8_acceptRanges), ("unicode/utf8.first", Rows.laid_unicode_utf8_first)]
set_option maxRecDepth 100000 in
theorem parseRanks_lifted (os:Os) (started:os.Started) (H:Type) (enc:TypeId×Value→H) :
    ReturnsInHanded {} Tryz.checked os 5 .any (fun w args=>(Rows.parseRanksSpec.pre enc Tryz.prog Tryz.f5 Rows.parseRanksRow.domain false w args∧laidMetH Tryz.prog laidV w)∧sizedMet enc Tryz.prog Tryz.f5 (OpenSpec.ofChange Rows.parseRanksSpec) false w args)
      (Rows.parseRanksSpec.post enc Tryz.prog Tryz.f5 false true false false):=by
  refine handed_shaped (C:=Tryz.checked) (X:=fun w _=>laidMetH Tryz.prog laidV w) (fun _ _ _ hh h=>h.of_heap hh) Tryz.own started (by kernel_rfl) Tryz.func5
    (ChangeSpec.witness_shaped (enc:=enc) (C:=Tryz.checked) (os:=os) (X:=fun w _=>laidMetH Tryz.prog laidV w) false (World.laidAll Tryz.prog os laidV) #[.slice none 0 0] 8 (World.laidAll_os _ _ _)
      (World.shaped_of_ZipB (by kernel_rfl) (by kernel_rfl)) (by kernel_rfl) (by kernel_rfl) (by kernel_rfl)
      (by rw [MakeChecks.laidMetH_plain _ _ _ (by kernel_rfl)];exact laidMet_laidAll _ (by kernel_rfl) (by kernel_rfl))) ?_
  intro W base args ds gs before hval0 hW hcnd hsz0 hL hsh;have hval:∀ (j:Nat) t v,Tryz.f5.params[j]? = some t→args[j]? = some v→Value.okWide Tryz.prog W .any base t v:=hval0;have hsz:(DataW.weightsEach Tryz.prog (Tryz.f5.params.toList ++ []) (ds ++ gs)).all (·≤reachBytes)=true:=hsz0;have hW':=hW;obtain ⟨p,q,hA0,hV,rfl,hfz,hnd⟩:=hW;have hA:DataW.TrodAll enc Tryz.prog W 0 (fun _=>true) true Tryz.f5.params.toList args.toList ds p:=hA0;rw [Tryz.params5] at hA hval hsz;obtain ⟨v0,d0,rfl,rfl,h0⟩:=trodAll_one hA;obtain ⟨rfl,rfl⟩:=trodVars_none hV;(have hsz1:∀ m' ∈ DataW.weightsEach Tryz.prog [38] [d0],m'≤reachBytes:=by simpa using hsz);obtain ⟨a0,l0,c0,rfl⟩:=okWide_slice Tryz.underlying38 (hval 0 38 v0 rfl rfl)
  obtain ⟨L0,R0⟩:∃ l:List Int,Row W (fun b=>b<W.heap.size) 1 (.slice a0 l0 c0) l.length (l.map (.int .i64)):=by
    obtain ⟨fuel,hf⟩:=h0;exact read_ints hf (fun n hn=>hsz1 n (DataW.weights_mem_each (show ([38]:List TypeId)[0]? = some 38 from rfl) (show ([d0]:List (DataW H))[0]? = some d0 from rfl) n hn))
  clear hA0 hval0 hval hcnd hsz0;simp only [List.append_nil] at hW';rw [MakeChecks.laidMetH_plain _ _ _ (by kernel_rfl)] at hL;have e1 : Rows.laid_unicode_utf8_first = Lib.firstData := Pinned.utf8First_eq;(have e2 : Rows.laid_unicode_utf8_acceptRanges (H := Unit) = Lib.acceptData := by kernel_rfl);have r1 := Lib.laidMet.reads (n := "unicode/utf8.first") (d := Rows.laid_unicode_utf8_first) hL (.tail _ (.head _));have r2 := Lib.laidMet.reads (n := "unicode/utf8.acceptRanges") (d := Rows.laid_unicode_utf8_acceptRanges) hL (.head _);rw [e1] at r1;rw [e2] at r2;have hT : Lib.Utf8Tabs 0 1 W := utf8Tabs_of_reads Tryz.lays260 ⟨by kernel_rfl, by kernel_rfl, by kernel_rfl, by kernel_rfl, by kernel_rfl, by kernel_rfl, by kernel_rfl⟩ r1 r2;clear r1 r2 e1 e2;obtain ⟨mm, hmx⟩ := cell_of_shapedOpen_int (P := Tryz.prog) (g := 2) (t := 3) (zero := #[.int .i64 0]) hsh (of_decide_eq_true (by kernel_rfl)) (by kernel_rfl) rfl (by kernel_rfl) (by kernel_rfl) Tryz.underlying3;have h3 : 3 ≤ W.heap.size := size_of_cell hmx;refine (ranks_walk R0 hT h3 hmx).mono fun e W' ⟨he, hb⟩ => ?_;subst he;have hlt : ∀ x ∈ p, x.block < W.heap.size := fun x hx => hW'.lt x (by simpa using hx)
  exact ⟨_,rfl,post_of_below (pa:=p) (pv:=[]) hW' (fun _ _ _=>trodAll_mk1 (shut_bool Tryz.underlying4 true))
    (fun sp hsp=>trodAll_mk1 (WideElems.Trod_stays Tryz.laidOut (by kernel_rfl) (of_decide_eq_true (by kernel_rfl)) h0 (fun x hx=>hb.same (hlt x (by simp [hx]))) (fun x hx=>hsp x (by simp [hx]))))
    (fun _ _=>rfl) (by simp) hb (ok_one (by kernel_rfl) rfl (okWide_bool_mk Tryz.underlying4 true))⟩
theorem parseRanks_row:Rows.ParseRanksSaid:=
  OpenClaim.holds_of_wide 5 Tryz.f5 rfl rfl rfl rfl rfl rfl rfl ⟨rfl,rfl,rfl,rfl,rfl⟩ rfl rfl rfl rfl rfl (by kernel_rfl) Tryz.func5 (by kernel_rfl)
    (of_decide_eq_true (by kernel_rfl)) (by unfold Func.isWrapper;rw [if_neg (of_decide_eq_false (by kernel_rfl))];exact ⟨rfl,rfl⟩)
    (fun os started H enc _=>parseRanks_lifted os started H enc)
theorem parseRanks_holds:Rows.ParseRanksCardSaid:=
  Claim7.holds_tied_plain_at .later [] [.data, .pinned] true (true, "d143ccc65e17875c148654c2dd377e7b8f85d94d660e714e7cf9057e9822563f") true parseRanks_row (fun _ h => by cases h) (by kernel_rfl) (fun _ h => by cases h) parseRanks_row_tie rfl ⟨rfl, rfl⟩ (by kernel_rfl) rfl
    (fun f fn hf hfn=>by
      (obtain rfl : f = 5 := Option.some.inj ((show Tryz.prog.funcNamed "recast/recastlaw5.ParseRanks" = some 5 by kernel_rfl).symm.trans hf) |>.symm);obtain rfl : fn = Tryz.f5 := (Option.some.inj (Tryz.func5.symm.trans hfn)).symm
      exact ⟨by kernel_rfl,fun j t ht=>by
        rw [Tryz.params5] at ht;(have hm:t ∈ [38]:=by simpa using Array.mem_of_getElem? ht);have hall:([38].all fun u=>!Tryz.prog.wantsStandIn u)=true:=by kernel_rfl
        exact (show Tryz.prog.wantsStandIn t=false by simpa using List.all_eq_true.1 hall t hm)⟩)
    (by kernel_rfl)
end Go.Proofs.YtfmgdmeopakdaaaGreatDoor
