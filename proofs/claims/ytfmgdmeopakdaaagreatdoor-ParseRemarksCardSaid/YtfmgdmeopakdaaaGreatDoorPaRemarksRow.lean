/- Proved: recastlaw5.ParseRemarks returns true for every string and int, and its arguments read behind the call as before; the tied card. Conditions: those of the row (loops, recursion, calls not followed; the listed tables of unicode/utf8 read as listed), and what an argument reads fits into the machine's reach. -/
import Derived.Test.YtfmgdmeopakdaaaGreatDoorMR1
import Derived.Test.YtfmgdmeopakdaaaGreatDoorMCr2
import Derived.Test.YtfmgdmeopakdaaaGreatDoorCards
import Derived.Test.YtfmgdmeopakdaaaGreatDoorTie
set_option linter.unusedVariables false
set_option linter.unusedSimpArgs false
namespace Go.Proofs.YtfmgdmeopakdaaaGreatDoor
open Go Go.RowKit Go.ChangeShapes Go.WideShapes Go.ChangeAt
def laidV : List (String × DataW Unit) := [("unicode/utf8.acceptRanges", Rows.laid_unicode_utf8_acceptRanges), ("unicode/utf8.first", Rows.laid_unicode_utf8_first)]
set_option maxRecDepth 100000 in
theorem parseRemarks_lifted (os:Os) (started:os.Started) (H:Type) (enc:TypeId×Value→H) :
    ReturnsInHanded {} Tryz.checked os 8 .any (fun w args=>(Rows.parseRemarksSpec.pre enc Tryz.prog Tryz.f8 Rows.parseRemarksRow.domain false w args∧laidMetH Tryz.prog laidV w)∧sizedMet enc Tryz.prog Tryz.f8 (OpenSpec.ofChange Rows.parseRemarksSpec) false w args)
      (Rows.parseRemarksSpec.post enc Tryz.prog Tryz.f8 false true false false):=by
  refine l6 (C:=Tryz.checked) (X:=fun w _=>laidMetH Tryz.prog laidV w) (fun _ _ _ hh h=>h.of_heap hh) Tryz.own started (by kernel_rfl) Tryz.func8
    (ChangeSpec.witness_shaped (enc:=enc) (C:=Tryz.checked) (os:=os) (X:=fun w _=>laidMetH Tryz.prog laidV w) false (World.laidAll Tryz.prog os laidV) #[.string ⟨#[]⟩,.int .i64 0] 8 (World.laidAll_os _ _ _)
      (World.shaped_of_ZipB (by kernel_rfl) (by kernel_rfl)) (by kernel_rfl) (by kernel_rfl) (by kernel_rfl)
      (by rw [MakeChecks.laidMetH_plain _ _ _ (by kernel_rfl)];exact laidMet_laidAll _ (by kernel_rfl) (by kernel_rfl))) ?_
  intro W base args ds gs before tA hW JC DX hL zE;have ru : ∀ (j : Nat) t v, Tryz.f8.params[j]? = some t → args[j]? = some v → Value.okWide Tryz.prog W .any base t v := tA;have Nw := hW;obtain ⟨p, q, FS, hV, rfl, YR, YK⟩ := hW;have hA : DataW.TrodAll enc Tryz.prog W 0 (fun _ => true) true Tryz.f8.params.toList args.toList ds p := FS;rw [Tryz.params8] at hA ru;obtain ⟨v0, v1, d0, d1, p0, p1, rfl, rfl, rfl, h0, h1⟩ := trodAll_two hA;obtain ⟨rfl, rfl⟩ := trodVars_none hV;obtain ⟨s0, rfl, rfl, rfl, M6⟩ := ChangeMaps.open_string Tryz.underlying9 (ru 0 9 v0 rfl rfl) h0;obtain ⟨n1, rfl, rfl, rfl, Yo⟩ := open_int Tryz.underlying3 (ru 1 3 v1 rfl rfl) h1;clear FS tA ru JC DX;simp only [List.append_nil] at Nw;rw [MakeChecks.laidMetH_plain _ _ _ (by kernel_rfl)] at hL;have e1 : Rows.laid_unicode_utf8_first = Lib.firstData := Pinned.utf8First_eq;(have e2 : Rows.laid_unicode_utf8_acceptRanges (H := Unit) = Lib.acceptData := by kernel_rfl);have r1 := Lib.laidMet.reads (n := "unicode/utf8.first") (d := Rows.laid_unicode_utf8_first) hL (.tail _ (.head _));have r2 := Lib.laidMet.reads (n := "unicode/utf8.acceptRanges") (d := Rows.laid_unicode_utf8_acceptRanges) hL (.head _);rw [e1] at r1;rw [e2] at r2;have hT : Lib.Utf8Tabs 0 1 W := utf8Tabs_of_reads Tryz.lays260 ⟨by kernel_rfl, by kernel_rfl, by kernel_rfl, by kernel_rfl, by kernel_rfl, by kernel_rfl, by kernel_rfl⟩ r1 r2;clear r1 r2 e1 e2;obtain ⟨mm, n_⟩ := cell_of_shapedOpen_int (P := Tryz.prog) (g := 2) (t := 3) (zero := #[.int .i64 0]) zE (of_decide_eq_true (by kernel_rfl)) (by kernel_rfl) rfl (by kernel_rfl) (by kernel_rfl) Tryz.underlying3;have h3 : 3 ≤ W.heap.size := mR n_;refine (y9 (s := s0) (K := n1) (by simpa [Lit.wf, IntKind.min, IntKind.max, IntKind.signed, IntKind.bits] using Yo) (by unfold maxLen at M6; omega) hT h3 n_).mono fun e W' ⟨he, hb⟩ => ?_;subst he
  exact ⟨_,rfl,lY (pa:=[]) (pv:=[]) Nw (fun _ _ _=>trodAll_mk1 (shut_bool Tryz.underlying4 true))
    (fun sp r9=>trodAll_mk2 (ChangeMaps.shut_string Tryz.underlying9 M6) (shut_int Tryz.underlying3 Yo))
    (fun _ _=>rfl) (by simp) hb (ok_one (by kernel_rfl) rfl (okWide_bool_mk Tryz.underlying4 true))⟩
theorem parseRemarks_row:Rows.ParseRemarksSaid:=
  OpenClaim.holds_of_wide 8 Tryz.f8 rfl rfl rfl rfl rfl rfl rfl ⟨rfl,rfl,rfl,rfl,rfl⟩ rfl rfl rfl rfl rfl (by kernel_rfl) Tryz.func8 (by kernel_rfl)
    (of_decide_eq_true (by kernel_rfl)) (by unfold Func.isWrapper;rw [if_neg (of_decide_eq_false (by kernel_rfl))];exact ⟨rfl,rfl⟩)
    (fun os started H enc _=>parseRemarks_lifted os started H enc)
theorem parseRemarks_holds:Rows.ParseRemarksCardSaid:=
  Claim7.holds_tied_plain_at .later [] [.data, .pinned] true (true, "d143ccc65e17875c148654c2dd377e7b8f85d94d660e714e7cf9057e9822563f") true parseRemarks_row (fun _ h => by cases h) (by kernel_rfl) (fun _ h => by cases h) parseRemarks_row_tie rfl ⟨rfl, rfl⟩ (by kernel_rfl) rfl
    (fun f fn hf O3=>by
      (obtain rfl : f = 8 := Option.some.inj ((show Tryz.prog.funcNamed "recast/recastlaw5.ParseRemarks" = some 8 by kernel_rfl).symm.trans hf) |>.symm);obtain rfl : fn = Tryz.f8 := (Option.some.inj (Tryz.func8.symm.trans O3)).symm
      exact ⟨by kernel_rfl,fun j t ht=>by
        rw [Tryz.params8] at ht;(have hm:t ∈ [9,3]:=by simpa using Array.mem_of_getElem? ht);have Eh:([9,3].all fun u=>!Tryz.prog.wantsStandIn u)=true:=by kernel_rfl
        exact (show Tryz.prog.wantsStandIn t=false by simpa using List.all_eq_true.1 Eh t hm)⟩)
    (by kernel_rfl)
end Go.Proofs.YtfmgdmeopakdaaaGreatDoor
