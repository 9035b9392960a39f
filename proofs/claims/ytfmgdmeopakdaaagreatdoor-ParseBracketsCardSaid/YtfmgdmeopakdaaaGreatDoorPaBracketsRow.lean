/- Proved: recastlaw5.ParseBrackets returns true for every string, and its arguments read behind the call as before; the tied card. Conditions: those of the row (loops, recursion, calls not followed; the listed tables of unicode/utf8 read as listed), and what an argument reads fits into the machine's reach. -/
import Derived.Test.YtfmgdmeopakdaaaGreatDoorMR1
import Derived.Test.YtfmgdmeopakdaaaGreatDoorMCb2
import Derived.Test.YtfmgdmeopakdaaaGreatDoorCards
import Derived.Test.YtfmgdmeopakdaaaGreatDoorTie
set_option linter.unusedVariables false
set_option linter.unusedSimpArgs false
namespace Go.Proofs.YtfmgdmeopakdaaaGreatDoor
open Go Go.RowKit Go.ChangeShapes Go.WideShapes Go.ChangeAt
def laidV : List (String × DataW Unit) := [("unicode/utf8.acceptRanges", Rows.laid_unicode_utf8_acceptRanges), ("unicode/utf8.first", Rows.laid_unicode_utf8_first)]
set_option maxRecDepth 100000 in
theorem parseBrackets_lifted (os:Os) (started:os.Started) (H:Type) (enc:TypeId×Value→H) :
    ReturnsInHanded {} Tryz.checked os 4 .any (fun w args=>(Rows.parseBracketsSpec.pre enc Tryz.prog Tryz.f4 Rows.parseBracketsRow.domain false w args∧laidMetH Tryz.prog laidV w)∧sizedMet enc Tryz.prog Tryz.f4 (OpenSpec.ofChange Rows.parseBracketsSpec) false w args)
      (Rows.parseBracketsSpec.post enc Tryz.prog Tryz.f4 false true false false):=by
  refine l6 (C:=Tryz.checked) (X:=fun w _=>laidMetH Tryz.prog laidV w) (fun _ _ _ hh h=>h.of_heap hh) Tryz.own started (by kernel_rfl) Tryz.func4
    (ChangeSpec.witness_shaped (enc:=enc) (C:=Tryz.checked) (os:=os) (X:=fun w _=>laidMetH Tryz.prog laidV w) false (World.laidAll Tryz.prog os laidV) #[.string ⟨#[]⟩] 8 (World.laidAll_os _ _ _)
      (World.shaped_of_ZipB (by kernel_rfl) (by kernel_rfl)) (by kernel_rfl) (by kernel_rfl) (by kernel_rfl)
      (by rw [MakeChecks.laidMetH_plain _ _ _ (by kernel_rfl)];exact laidMet_laidAll _ (by kernel_rfl) (by kernel_rfl))) ?_
  intro W base args ds gs before tA hW JC DX hL zE;have ru : ∀ (j : Nat) t v, Tryz.f4.params[j]? = some t → args[j]? = some v → Value.okWide Tryz.prog W .any base t v := tA;have Nw := hW;obtain ⟨p, q, FS, hV, rfl, YR, YK⟩ := hW;have hA : DataW.TrodAll enc Tryz.prog W 0 (fun _ => true) true Tryz.f4.params.toList args.toList ds p := FS;rw [Tryz.params4] at hA ru;obtain ⟨v0, d0, rfl, rfl, h0⟩ := trodAll_one hA;obtain ⟨rfl, rfl⟩ := trodVars_none hV;obtain ⟨s0, rfl, rfl, rfl, M6⟩ := ChangeMaps.open_string Tryz.underlying9 (ru 0 9 v0 rfl rfl) h0;clear FS tA ru JC DX;simp only [List.append_nil] at Nw;rw [MakeChecks.laidMetH_plain _ _ _ (by kernel_rfl)] at hL;have e1 : Rows.laid_unicode_utf8_first = Lib.firstData := Pinned.utf8First_eq;(have e2 : Rows.laid_unicode_utf8_acceptRanges (H := Unit) = Lib.acceptData := by kernel_rfl);have r1 := Lib.laidMet.reads (n := "unicode/utf8.first") (d := Rows.laid_unicode_utf8_first) hL (.tail _ (.head _));have r2 := Lib.laidMet.reads (n := "unicode/utf8.acceptRanges") (d := Rows.laid_unicode_utf8_acceptRanges) hL (.head _);rw [e1] at r1;rw [e2] at r2;have hT : Lib.Utf8Tabs 0 1 W := utf8Tabs_of_reads Tryz.lays260 ⟨by kernel_rfl, by kernel_rfl, by kernel_rfl, by kernel_rfl, by kernel_rfl, by kernel_rfl, by kernel_rfl⟩ r1 r2;clear r1 r2 e1 e2;obtain ⟨mm, n_⟩ := cell_of_shapedOpen_int (P := Tryz.prog) (g := 2) (t := 3) (zero := #[.int .i64 0]) zE (of_decide_eq_true (by kernel_rfl)) (by kernel_rfl) rfl (by kernel_rfl) (by kernel_rfl) Tryz.underlying3;have h3 : 3 ≤ W.heap.size := mR n_;refine (brackets_true (s := s0) (by unfold maxLen at M6; omega) hT h3 n_).mono fun e W' ⟨he, hb⟩ => ?_;subst he
  exact ⟨_,rfl,lY (pa:=[]) (pv:=[]) Nw (fun _ _ _=>trodAll_mk1 (shut_bool Tryz.underlying4 true))
    (fun sp r9=>trodAll_mk1 (ChangeMaps.shut_string Tryz.underlying9 M6))
    (fun _ _=>rfl) (by simp) hb (ok_one (by kernel_rfl) rfl (okWide_bool_mk Tryz.underlying4 true))⟩
theorem parseBrackets_row:Rows.ParseBracketsSaid:=
  OpenClaim.holds_of_wide 4 Tryz.f4 rfl rfl rfl rfl rfl rfl rfl ⟨rfl,rfl,rfl,rfl,rfl⟩ rfl rfl rfl rfl rfl (by kernel_rfl) Tryz.func4 (by kernel_rfl)
    (of_decide_eq_true (by kernel_rfl)) (by unfold Func.isWrapper;rw [if_neg (of_decide_eq_false (by kernel_rfl))];exact ⟨rfl,rfl⟩)
    (fun os started H enc _=>parseBrackets_lifted os started H enc)
theorem parseBrackets_holds:Rows.ParseBracketsCardSaid:=
  Claim7.holds_tied_plain_at .later [] [.data, .pinned] true (true, "d143ccc65e17875c148654c2dd377e7b8f85d94d660e714e7cf9057e9822563f") true parseBrackets_row (fun _ h => by cases h) (by kernel_rfl) (fun _ h => by cases h) parseBrackets_row_tie rfl ⟨rfl, rfl⟩ (by kernel_rfl) rfl
    (fun f fn hf O3=>by
      (obtain rfl : f = 4 := Option.some.inj ((show Tryz.prog.funcNamed "recast/recastlaw5.ParseBrackets" = some 4 by kernel_rfl).symm.trans hf) |>.symm);obtain rfl : fn = Tryz.f4 := (Option.some.inj (Tryz.func4.symm.trans O3)).symm
      exact ⟨by kernel_rfl,fun j t ht=>by
        rw [Tryz.params4] at ht;(have hm:t ∈ [9]:=by simpa using Array.mem_of_getElem? ht);have Eh:([9].all fun u=>!Tryz.prog.wantsStandIn u)=true:=by kernel_rfl
        exact (show Tryz.prog.wantsStandIn t=false by simpa using List.all_eq_true.1 Eh t hm)⟩)
    (by kernel_rfl)
end Go.Proofs.YtfmgdmeopakdaaaGreatDoor
