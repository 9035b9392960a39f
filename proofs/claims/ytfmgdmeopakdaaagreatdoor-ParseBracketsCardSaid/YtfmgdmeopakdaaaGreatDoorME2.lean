/- Parts of one proof. -/
import Derived.Test.YtfmgdmeopakdaaaGreatDoorME1
import Derived.Test.YtfmgdmeopakdaaaGreatDoorMB1
set_option linter.unusedVariables false
set_option linter.unusedSimpArgs false
namespace Go.Proofs.YtfmgdmeopakdaaaGreatDoor
open Go Go.RowKit Tryz
structure km (base:Nat) (w:World) (g:Nat) (s:ByteArray) (at_:Nat) (l:List Tk) (A:Option Addr) (c:Nat) (R:Option Addr) (m d:Nat) (xs:List Value):Prop where
  blk:aj w g 59 #[.string s,.int .i64 at_,.slice A l.length c,.slice R m d,.int .i64 0,.string ⟨#[]⟩,.int .i64 0]
  tok:w.ownsRow base 36 4 (.slice A l.length c) l.length (eg l)
  rem:w.ownsRow base 90 2 (.slice R m d) m xs
  mle:m≤at_
  lo:base≤g
def ey (base:Nat) (w:World) (g:Nat) (s:ByteArray) (at_:Nat) (l:List Tk):Prop:=∃ A c R m d xs,km base w g s at_ l A c R m d xs
section
variable {w w':World} {base g at_:Nat} {s:ByteArray} {l:List Tk}
theorem km.grow {A:Option Addr} {c:Nat} {R:Option Addr} {m d:Nat} {xs:List Value} {W w3:World} {v':Value} {t:Tk} (h:km base w g s at_ l A c R m d xs) (hW:Below w.heap.size w W) (aD:w3.ownsRow base 36 4 v' (l.length+1) (eg l ++ [.int .i64 t.k,.int .i64 t.fr,.int .i64 t.to,.string t.tx]))
    (hg:W.grownBy w3 (Value.slice A l.length c).ownBlock):∃ B c',v' = .slice B (l.length+1) c'∧ey base (w3.setCell ⟨g,2,none⟩ (.slice B (l.length+1) c')) g s at_ (l ++ [t])∧Below base w (w3.setCell ⟨g,2,none⟩ (.slice B (l.length+1) c'))∧aj w3 g 59 #[.string s,.int .i64 at_,.slice A l.length c,.slice R m d,.int .i64 0,.string ⟨#[]⟩,.int .i64 0]:=by
  obtain ⟨B,c',rfl⟩:=cA aD;have sE:=h.blk.lt;have hz:=hW.size;have eF:aj w3 g 59 #[.string s,.int .i64 at_,.slice A l.length c,.slice R m d,.int .i64 0,.string ⟨#[]⟩,.int .i64 0]:=(h.blk.below hW sE).grown hg (fun e=>cD h.tok h.blk (by decide) e.symm)
  have Ij:w3.ownsRow base 90 2 (.slice R m d) m xs:=(own_below h.rem hW).kept hg (by
    cases hA:(Value.slice R m d).ownBlock with
    | none=>exact .inl rfl
    | some k=>exact .inr fun e=>zg h.rem h.tok (by decide) hA e.symm)
  have OL:Below base w w3:=(hW.mono (Nat.le_trans h.lo (Nat.le_of_lt sE))).trans ⟨hg.os,hg.tape,hg.output,hg.size,fun b hb=>hg.block b (by have:=h.lo;omega) (fun e=>by
    have:=(h.tok.lt b e.symm).1
    omega)⟩
  refine ⟨B,c',rfl,⟨B,c',R,m,d,xs,?_,?_,?_,h.mle,h.lo⟩,OL.setCell h.lo _,eF⟩
  · simpa using eF.set_ 2 (.slice B (l.length+1) c')
  · rw [yi]
    (have:w3.ownsRow base 36 4 (.slice B (l ++ [t]).length c') (l ++ [t]).length (eg l ++ eg [t]):=by simpa [eg] using aD);exact bk this fun k hk=>Below.heap_setCell w3 ⟨g,2,none⟩ _ k (fun e=>cD this eF (by decide) (by rw [hk,e]))
  · exact bk Ij fun k hk=>Below.heap_setCell w3 ⟨g,2,none⟩ _ k (fun e=>cD Ij eF (by decide) (by rw [hk,e]))
end
set_option maxRecDepth 100000
set_option maxHeartbeats 4000000
section
variable {w w':World} {base g at_:Nat} {s:ByteArray} {l:List Tk}
theorem dR {k fr:Int} {tx:ByteArray} (h:ey base w g s at_ l) (hl:l.length≤1000000) :
    Calls prog 54 #[.pointer (some ⟨g,0,none⟩),.int .i64 k,.int .i64 fr,.string tx] w fun e w'=>e = .returned (.tuple #[])∧ey base w' g s at_ (l ++ [⟨k,fr,at_,tx⟩])∧Below base w w':=by
  obtain ⟨A,c,R,m,d,xs,hm⟩:=h;have H:=zh hm;have dA:=hm.lo;have q0:=hm.blk.cell 0;have q1:=hm.blk.cell 1;have q2:=hm.blk.cell 2;have q3:=hm.blk.cell 3;simp at q0 q1 q2 q3;have qf:=hm.blk.frozen;have ql:=hm.blk.lt;clear hm;obtain ⟨i0,fL,ga,f_,fZ⟩:=info_parts rq;go_enter func54,ntmps54
  go_region_law
    (first
      | (refine bE _ rfl _ _ 32 rfl base 36 i0 _ 4 40 underlying32 fL ga f_ fZ rfl (by omega) (.slice A l.length c) l.length (eg l) (by simp [Act.eval]) (own_below H.o.tok (aG _ _).drew) (fun b=>b=w.heap.size) (.slice (some ⟨w.heap.size,0,none⟩) 1 1) 1 [.int .i64 k,.int .i64 fr,.int .i64 at_,.string tx] (by simp [Act.eval]) (((aj.new w _ _).row (n:=1) rfl (by unfold maxLen;omega) rfl)) (by simp [Value.oneCell']) (by unfold maxLen;omega) (by omega) (by simp;omega) ?_
         intro v' w3 aD hg bN cX;obtain ⟨B,c',rfl,hS,mB,eF⟩:=H.o.grow (t:=⟨k,fr,at_,tx⟩) (aG _ _).drew aD hg;have HS:=zh hS;have sZ:=zh mB;have s2:=eF.cell 2;simp at s2;have sf:=eF.frozen;have sl:=eF.lt
         clear aD hg bN cX hS mB eF))
  all_goals
    go_end0
    exact ⟨rfl,HS.o,sZ.o⟩
theorem IO (w:World) (cs:Array Value) (t:TypeId) (p:Int):Row (((w.alloc (.cells cs t)).alloc (.cells #[.int .i64 6,.int .i64 p,.int .i64 p,.string ⟨#[10]⟩] 36)).drew) (fun b=>b=w.heap.size+1) 4 (.slice (some ⟨w.heap.size+1,0,none⟩) 1 1) 1 [.int .i64 6,.int .i64 p,.int .i64 p,.string ⟨#[10]⟩]:=by
  have h:=((aj.new (w.alloc (.cells cs t)) 36 #[.int .i64 6,.int .i64 p,.int .i64 p,.string ⟨#[10]⟩]).drew).row (S:=fun b=>b=(w.alloc (.cells cs t)).heap.size) (n:=1) (size:=4) rfl (by unfold maxLen;omega) rfl;(have e:(w.alloc (.cells cs t)).heap.size=w.heap.size+1:=by simp);rw [e] at h;exact h
theorem j' {p:Int} (h:ey base w g s at_ l) (hl:l.length≤1000000) (iw:base≤w.heap.size) :
    Calls prog 45 #[.pointer (some ⟨g,0,none⟩),.int .i64 p] w fun e w'=>e = .returned (.tuple #[])∧ey base w' g s at_ (bB p l)∧Below base w w':=by
  obtain ⟨A,c,R,m,d,xs,hm⟩:=h;have H:=zh hm;have dA:=hm.lo;have q2:=hm.blk.cell 2;simp at q2;have ql:=hm.blk.lt;clear hm;obtain ⟨i0,fL,ga,f_,fZ⟩:=info_parts rq;rcases Nat.eq_zero_or_pos l.length with h0 | h0
  · obtain rfl:l=[]:=List.eq_nil_of_length_eq_zero h0
    clear h0;go_enter func45,ntmps45;go_wp2_with fail;exact bodyPost_ret (v:=.tuple #[]) (by first | rfl | simp [results,results45,go_sem]) rfl ⟨rfl,⟨A,c,R,m,d,xs,H.o⟩,Below.refl _ _⟩
  obtain ⟨n,hn⟩:∃ n,l.length=n+1:=⟨l.length - 1,by omega⟩;obtain ⟨tg,c0,hA,-⟩:=H.o.tok.form h0;cases hA;obtain ⟨t0,t1,t2,t3⟩:=re H.o.tok (i:=n) (by omega);obtain ⟨t,ht⟩:∃ t,l[n]'(by omega)=t:=⟨_,rfl⟩;rw [ht] at t0 t1 t2 t3
  have pT:l.getLast? = some t:=by
    rw [List.getLast?_eq_getElem?,hn,Nat.add_sub_cancel,List.getElem?_eq_getElem (by omega),ht]
  have HL:Hd (bB p l=if mF t=true then l ++ [⟨6,p,p,⟨#[10]⟩⟩] else l):=zh (by unfold bB;rw [pT]);have GO:tg<w.heap.size:=(H.o.tok.lt tg rfl).2;(have Qv:(n:Int)≤1000000:=by omega);(have BP:((l.length:Nat):Int)=(n:Int)+1:=by omega);(have Wz:IntKind.i64.wrap ((l.length:Int) - 1)=(n:Int):=by rw [BP,Int.add_sub_cancel,IntKind.wrap_i64];omega);(have fs:(n:Int)<(l.length:Int):=by omega);(have hz:(0:Int)≤(n:Int):=by omega);(have C7:((l.length:Int) == 0)=false:=by rw [beq_eq_false_iff_ne];omega);clear pT ht hn BP h0;obtain ⟨k,fr,te,tx⟩:=t;simp only at t0 t1 t2 t3;obtain ⟨r,hr⟩:∃ r,mF ⟨k,fr,te,tx⟩=r:=⟨_,rfl⟩;rw [hr] at HL;unfold mF at hr;simp only at hr;by_cases h1:k=1
  · subst h1
    simp at hr;subst hr;rw [if_pos rfl] at HL;go_enter func45,ntmps45;go_wp2_with fail
    go_region
    all_goals
      go_wp2_with (at_builtin;refine au _ rfl _ _ 32 rfl base 36 i0 _ 4 40 underlying32 fL ga f_ fZ rfl (by omega) (.slice (some ⟨tg,0,none⟩) l.length c) l.length (eg l) rfl (own_below H.o.tok (by repeat (first | exact Below.refl _ _ | refine Below.alloc ?_ (by first | omega | (simp;done) | (simp;omega)) _ | refine Below.drew ?_))) (fun b=>b=w.heap.size+1) (.slice (some ⟨w.heap.size+1,0,none⟩) 1 1) 1 [.int .i64 6,.int .i64 p,.int .i64 p,.string ⟨#[10]⟩] rfl (IO _ _ _ _) (by simp [Value.oneCell']) (by unfold maxLen;omega) (by omega) (by simp;omega) ?_);intro v' w3 aD hg bN cX;obtain ⟨B,c',rfl,hS,mB,eF⟩:=H.o.grow (t:=⟨6,p,p,⟨#[10]⟩⟩) (by repeat (first | exact Below.refl _ _ | refine Below.alloc ?_ (by first | omega | (simp;done) | (simp;omega)) _ | refine Below.drew ?_)) aD hg;have HS:=zh hS;have sZ:=zh mB;have s2:=eF.cell 2;simp at s2;have sf:=eF.frozen;have sl:=eF.lt;clear aD hg bN cX hS mB eF;go_wp2_with fail
      go_end0
      exact ⟨rfl,by rw [HL.o];exact HS.o,sZ.o⟩
  (have f1:(k == 1)=false:=by simpa using h1);rw [decide_eq_false h1] at hr;clear h1;by_cases h2:k=2
  · subst h2
    simp at hr;subst hr;rw [if_pos rfl] at HL;go_enter func45,ntmps45;go_wp2_with fail
    go_region
    all_goals
      go_wp2_with (at_builtin;refine au _ rfl _ _ 32 rfl base 36 i0 _ 4 40 underlying32 fL ga f_ fZ rfl (by omega) (.slice (some ⟨tg,0,none⟩) l.length c) l.length (eg l) rfl (own_below H.o.tok (by repeat (first | exact Below.refl _ _ | refine Below.alloc ?_ (by first | omega | (simp;done) | (simp;omega)) _ | refine Below.drew ?_))) (fun b=>b=w.heap.size+1) (.slice (some ⟨w.heap.size+1,0,none⟩) 1 1) 1 [.int .i64 6,.int .i64 p,.int .i64 p,.string ⟨#[10]⟩] rfl (IO _ _ _ _) (by simp [Value.oneCell']) (by unfold maxLen;omega) (by omega) (by simp;omega) ?_);intro v' w3 aD hg bN cX;obtain ⟨B,c',rfl,hS,mB,eF⟩:=H.o.grow (t:=⟨6,p,p,⟨#[10]⟩⟩) (by repeat (first | exact Below.refl _ _ | refine Below.alloc ?_ (by first | omega | (simp;done) | (simp;omega)) _ | refine Below.drew ?_)) aD hg;have HS:=zh hS;have sZ:=zh mB;have s2:=eF.cell 2;simp at s2;have sf:=eF.frozen;have sl:=eF.lt;clear aD hg bN cX hS mB eF;go_wp2_with fail
      go_end0
      exact ⟨rfl,by rw [HL.o];exact HS.o,sZ.o⟩
  (have f2:(k == 2)=false:=by simpa using h2);rw [decide_eq_false h2] at hr;clear h2;by_cases h3:k=3
  · subst h3
    simp at hr;subst hr;rw [if_pos rfl] at HL;go_enter func45,ntmps45;go_wp2_with fail
    go_region
    all_goals
      go_wp2_with (at_builtin;refine au _ rfl _ _ 32 rfl base 36 i0 _ 4 40 underlying32 fL ga f_ fZ rfl (by omega) (.slice (some ⟨tg,0,none⟩) l.length c) l.length (eg l) rfl (own_below H.o.tok (by repeat (first | exact Below.refl _ _ | refine Below.alloc ?_ (by first | omega | (simp;done) | (simp;omega)) _ | refine Below.drew ?_))) (fun b=>b=w.heap.size+1) (.slice (some ⟨w.heap.size+1,0,none⟩) 1 1) 1 [.int .i64 6,.int .i64 p,.int .i64 p,.string ⟨#[10]⟩] rfl (IO _ _ _ _) (by simp [Value.oneCell']) (by unfold maxLen;omega) (by omega) (by simp;omega) ?_);intro v' w3 aD hg bN cX;obtain ⟨B,c',rfl,hS,mB,eF⟩:=H.o.grow (t:=⟨6,p,p,⟨#[10]⟩⟩) (by repeat (first | exact Below.refl _ _ | refine Below.alloc ?_ (by first | omega | (simp;done) | (simp;omega)) _ | refine Below.drew ?_)) aD hg;have HS:=zh hS;have sZ:=zh mB;have s2:=eF.cell 2;simp at s2;have sf:=eF.frozen;have sl:=eF.lt;clear aD hg bN cX hS mB eF;go_wp2_with fail
      go_end0
      exact ⟨rfl,by rw [HL.o];exact HS.o,sZ.o⟩
  (have f3:(k == 3)=false:=by simpa using h3);rw [decide_eq_false h3] at hr;clear h3;simp only [Bool.false_or] at hr;by_cases h4:k=4
  · subst h4
    simp only [decide_true,Bool.true_and] at hr;(try rw [show (decide ((4:Int)=5))=false from rfl] at hr);(try simp only [Bool.false_and,Bool.or_false] at hr);by_cases h:mx [⟨#[98,114,101,97,107]⟩,⟨#[99,111,110,116,105,110,117,101]⟩,⟨#[114,101,116,117,114,110]⟩] tx=true
    · rw [h] at hr
      subst hr;rw [if_pos rfl] at HL;have hm:=eo h;clear h;simp only [List.mem_cons,List.not_mem_nil,or_false] at hm
      rcases hm with rfl | rfl | rfl <;>
        (
         go_enter func45,ntmps45;go_wp2_with fail
         go_region
         all_goals
           go_wp2_with (at_builtin;refine au _ rfl _ _ 32 rfl base 36 i0 _ 4 40 underlying32 fL ga f_ fZ rfl (by omega) (.slice (some ⟨tg,0,none⟩) l.length c) l.length (eg l) rfl (own_below H.o.tok (by repeat (first | exact Below.refl _ _ | refine Below.alloc ?_ (by first | omega | (simp;done) | (simp;omega)) _ | refine Below.drew ?_))) (fun b=>b=w.heap.size+1) (.slice (some ⟨w.heap.size+1,0,none⟩) 1 1) 1 [.int .i64 6,.int .i64 p,.int .i64 p,.string ⟨#[10]⟩] rfl (IO _ _ _ _) (by simp [Value.oneCell']) (by unfold maxLen;omega) (by omega) (by simp;omega) ?_);intro v' w3 aD hg bN cX;obtain ⟨B,c',rfl,hS,mB,eF⟩:=H.o.grow (t:=⟨6,p,p,⟨#[10]⟩⟩) (by repeat (first | exact Below.refl _ _ | refine Below.alloc ?_ (by first | omega | (simp;done) | (simp;omega)) _ | refine Below.drew ?_)) aD hg;have HS:=zh hS;have sZ:=zh mB;have s2:=eF.cell 2;simp at s2;have sf:=eF.frozen;have sl:=eF.lt;clear aD hg bN cX hS mB eF;go_wp2_with fail
           go_end0
           exact ⟨rfl,by rw [HL.o];exact HS.o,sZ.o⟩)
    · replace h:=Bool.eq_false_iff.2 h
      rw [h] at hr;subst hr;rw [if_neg (by decide)] at HL;have e0:(tx.toList == [98,114,101,97,107])=false:=bq (ai h (by simp));have e1:(tx.toList == [99,111,110,116,105,110,117,101])=false:=bq (ai h (by simp));have e2:(tx.toList == [114,101,116,117,114,110])=false:=bq (ai h (by simp));clear h;go_enter func45,ntmps45;go_wp2_with fail
      go_region
      all_goals
        go_wp2_with fail
        go_end0
        refine ⟨rfl,?_,(Below.mono (B:=w.heap.size) (by repeat (first | exact Below.refl _ _ | refine Below.alloc ?_ (by first | omega | (simp;done) | (simp;omega)) _ | refine Below.drew ?_)) iw)⟩;rw [HL.o];exact ⟨_,c,R,m,d,xs,H.o.blk.below (B:=w.heap.size) (by repeat (first | exact Below.refl _ _ | refine Below.alloc ?_ (by first | omega | (simp;done) | (simp;omega)) _ | refine Below.drew ?_)) ql,own_below H.o.tok (by repeat (first | exact Below.refl _ _ | refine Below.alloc ?_ (by first | omega | (simp;done) | (simp;omega)) _ | refine Below.drew ?_)),own_below H.o.rem (by repeat (first | exact Below.refl _ _ | refine Below.alloc ?_ (by first | omega | (simp;done) | (simp;omega)) _ | refine Below.drew ?_)),H.o.mle,H.o.lo⟩
  (have f4:(k == 4)=false:=by simpa using h4);rw [decide_eq_false h4] at hr;clear h4;simp only [Bool.false_or,Bool.false_and] at hr;by_cases h5:k=5
  · subst h5
    simp only [decide_true,Bool.true_and] at hr;(try rw [show (decide ((4:Int)=5))=false from rfl] at hr);(try simp only [Bool.false_and,Bool.or_false] at hr);by_cases h:mx [⟨#[43,43]⟩,⟨#[45,45]⟩,⟨#[41]⟩,⟨#[93]⟩,⟨#[125]⟩] tx=true
    · rw [h] at hr
      subst hr;rw [if_pos rfl] at HL;have hm:=eo h;clear h;simp only [List.mem_cons,List.not_mem_nil,or_false] at hm
      rcases hm with rfl | rfl | rfl | rfl | rfl <;>
        (
         go_enter func45,ntmps45;go_wp2_with fail
         go_region
         all_goals
           go_wp2_with (at_builtin;refine au _ rfl _ _ 32 rfl base 36 i0 _ 4 40 underlying32 fL ga f_ fZ rfl (by omega) (.slice (some ⟨tg,0,none⟩) l.length c) l.length (eg l) rfl (own_below H.o.tok (by repeat (first | exact Below.refl _ _ | refine Below.alloc ?_ (by first | omega | (simp;done) | (simp;omega)) _ | refine Below.drew ?_))) (fun b=>b=w.heap.size+1) (.slice (some ⟨w.heap.size+1,0,none⟩) 1 1) 1 [.int .i64 6,.int .i64 p,.int .i64 p,.string ⟨#[10]⟩] rfl (IO _ _ _ _) (by simp [Value.oneCell']) (by unfold maxLen;omega) (by omega) (by simp;omega) ?_);intro v' w3 aD hg bN cX;obtain ⟨B,c',rfl,hS,mB,eF⟩:=H.o.grow (t:=⟨6,p,p,⟨#[10]⟩⟩) (by repeat (first | exact Below.refl _ _ | refine Below.alloc ?_ (by first | omega | (simp;done) | (simp;omega)) _ | refine Below.drew ?_)) aD hg;have HS:=zh hS;have sZ:=zh mB;have s2:=eF.cell 2;simp at s2;have sf:=eF.frozen;have sl:=eF.lt;clear aD hg bN cX hS mB eF;go_wp2_with fail
           go_end0
           exact ⟨rfl,by rw [HL.o];exact HS.o,sZ.o⟩)
    · replace h:=Bool.eq_false_iff.2 h
      rw [h] at hr;subst hr;rw [if_neg (by decide)] at HL;have e0:(tx.toList == [43,43])=false:=bq (ai h (by simp));have e1:(tx.toList == [45,45])=false:=bq (ai h (by simp));have e2:(tx.toList == [41])=false:=bq (ai h (by simp));have e3:(tx.toList == [93])=false:=bq (ai h (by simp));have e4:(tx.toList == [125])=false:=bq (ai h (by simp));clear h;go_enter func45,ntmps45;go_wp2_with fail
      go_region
      all_goals
        go_wp2_with fail
        go_end0
        refine ⟨rfl,?_,(Below.mono (B:=w.heap.size) (by repeat (first | exact Below.refl _ _ | refine Below.alloc ?_ (by first | omega | (simp;done) | (simp;omega)) _ | refine Below.drew ?_)) iw)⟩;rw [HL.o];exact ⟨_,c,R,m,d,xs,H.o.blk.below (B:=w.heap.size) (by repeat (first | exact Below.refl _ _ | refine Below.alloc ?_ (by first | omega | (simp;done) | (simp;omega)) _ | refine Below.drew ?_)) ql,own_below H.o.tok (by repeat (first | exact Below.refl _ _ | refine Below.alloc ?_ (by first | omega | (simp;done) | (simp;omega)) _ | refine Below.drew ?_)),own_below H.o.rem (by repeat (first | exact Below.refl _ _ | refine Below.alloc ?_ (by first | omega | (simp;done) | (simp;omega)) _ | refine Below.drew ?_)),H.o.mle,H.o.lo⟩
  (have f5:(k == 5)=false:=by simpa using h5);rw [decide_eq_false h5] at hr;clear h5;simp only [Bool.false_or,Bool.false_and] at hr;subst hr;rw [if_neg (by decide)] at HL;go_enter func45,ntmps45;go_wp2_with fail
  go_region
  all_goals
    go_wp2_with fail
    go_end0
    refine ⟨rfl,?_,(Below.mono (B:=w.heap.size) (by repeat (first | exact Below.refl _ _ | refine Below.alloc ?_ (by first | omega | (simp;done) | (simp;omega)) _ | refine Below.drew ?_)) iw)⟩;rw [HL.o];exact ⟨_,c,R,m,d,xs,H.o.blk.below (B:=w.heap.size) (by repeat (first | exact Below.refl _ _ | refine Below.alloc ?_ (by first | omega | (simp;done) | (simp;omega)) _ | refine Below.drew ?_)) ql,own_below H.o.tok (by repeat (first | exact Below.refl _ _ | refine Below.alloc ?_ (by first | omega | (simp;done) | (simp;omega)) _ | refine Below.drew ?_)),own_below H.o.rem (by repeat (first | exact Below.refl _ _ | refine Below.alloc ?_ (by first | omega | (simp;done) | (simp;omega)) _ | refine Below.drew ?_)),H.o.mle,H.o.lo⟩
end
set_option maxHeartbeats 1000000 in
theorem cO {n:Nat} {w:World}:Calls prog 48 #[.int .u8 n] w fun e w'=>e = .returned (.bool (d8 n))∧w'=w:=by
  obtain ⟨r,hr⟩:∃ r,d8 n=r:=⟨_,rfl⟩;rw [hr];have HR:=zh hr;clear hr;go_enter func48,ntmps48;go_wp2_with fail
  all_goals
    go_ret;refine ⟨?_,rfl⟩;rw [← HR.o];refine congrArg (fun b=>Ending.returned (.bool b)) (Bool.eq_iff_iff.2 ?_);simp [d8];try omega
theorem dW {n:Nat} {w:World}:Calls prog 50 #[.int .u8 n] w fun e w'=>e = .returned (.bool (gd n))∧w'=w:=by
  obtain ⟨r,hr⟩:∃ r,gd n=r:=⟨_,rfl⟩;rw [hr];have HR:=zh hr;clear hr;go_enter func50,ntmps50;go_wp2_with fail
  all_goals
    go_ret;refine ⟨?_,rfl⟩;rw [← HR.o];refine congrArg (fun b=>Ending.returned (.bool b)) (Bool.eq_iff_iff.2 ?_);simp [gd];try omega
set_option maxRecDepth 100000 in
set_option maxHeartbeats 8000000 in
theorem s_ {s:ByteArray} {w:World}:Calls prog 73 #[.string s] w fun e w'=>e = .returned (.bool (j7 s))∧w'=w:=by
  by_cases h:j7 s=true
  · have hm:=eo h
    rw [h];clear h;simp only [bA,List.mem_cons,List.not_mem_nil,or_false] at hm
    rcases hm with rfl | rfl | rfl | rfl | rfl | rfl | rfl | rfl | rfl | rfl | rfl | rfl | rfl | rfl | rfl | rfl | rfl | rfl | rfl | rfl | rfl | rfl | rfl | rfl | rfl <;>
      (go_enter func73,ntmps73
       go_wp2_with fail;go_ret
       exact ⟨rfl,rfl⟩)
  · replace h:=Bool.eq_false_iff.2 h
    rw [h];have e0:(s.toList == [98,114,101,97,107])=false:=bq (ai h (by simp [bA]));have e1:(s.toList == [99,97,115,101])=false:=bq (ai h (by simp [bA]));have e2:(s.toList == [99,104,97,110])=false:=bq (ai h (by simp [bA]));have e3:(s.toList == [99,111,110,115,116])=false:=bq (ai h (by simp [bA]));have e4:(s.toList == [99,111,110,116,105,110,117,101])=false:=bq (ai h (by simp [bA]));have e5:(s.toList == [100,101,102,97,117,108,116])=false:=bq (ai h (by simp [bA]));have e6:(s.toList == [100,101,102,101,114])=false:=bq (ai h (by simp [bA]));have e7:(s.toList == [101,108,115,101])=false:=bq (ai h (by simp [bA]));have e8:(s.toList == [102,97,108,108,116,104,114,111,117,103,104])=false:=bq (ai h (by simp [bA]));have e9:(s.toList == [102,111,114])=false:=bq (ai h (by simp [bA]));have QH:(s.toList == [102,117,110,99])=false:=bq (ai h (by simp [bA]));have e11:(s.toList == [103,111])=false:=bq (ai h (by simp [bA]));have Zo:(s.toList == [103,111,116,111])=false:=bq (ai h (by simp [bA]));have Zn:(s.toList == [105,102])=false:=bq (ai h (by simp [bA]));have Zm:(s.toList == [105,109,112,111,114,116])=false:=bq (ai h (by simp [bA]));have e15:(s.toList == [105,110,116,101,114,102,97,99,101])=false:=bq (ai h (by simp [bA]));have e16:(s.toList == [109,97,112])=false:=bq (ai h (by simp [bA]));have e17:(s.toList == [112,97,99,107,97,103,101])=false:=bq (ai h (by simp [bA]));have e18:(s.toList == [114,97,110,103,101])=false:=bq (ai h (by simp [bA]));have e19:(s.toList == [114,101,116,117,114,110])=false:=bq (ai h (by simp [bA]));have e20:(s.toList == [115,101,108,101,99,116])=false:=bq (ai h (by simp [bA]));have e21:(s.toList == [115,116,114,117,99,116])=false:=bq (ai h (by simp [bA]));have e22:(s.toList == [115,119,105,116,99,104])=false:=bq (ai h (by simp [bA]))
    have e23:(s.toList == [116,121,112,101])=false:=bq (ai h (by simp [bA]));have e24:(s.toList == [118,97,114])=false:=bq (ai h (by simp [bA]));clear h;go_enter func73,ntmps73;go_wp2_with fail;go_ret;exact ⟨rfl,rfl⟩
set_option maxRecDepth 100000
set_option maxHeartbeats 8000000
section
variable {w w':World} {base g at_:Nat} {s:ByteArray} {l:List Tk}
theorem km.but {base:Nat} {w w':World} {g:Nat} {s:ByteArray} {at_ p:Nat} {l:List Tk} {A:Option Addr} {c:Nat} {R:Option Addr} {m d:Nat} {xs:List Value} (h:km base w g s at_ l A c R m d xs) (hb:ay (fun k=>k=g) w w') (hg:aj w' g 59 #[.string s,.int .i64 p,.slice A l.length c,.slice R m d,.int .i64 0,.string ⟨#[]⟩,.int .i64 0]) (hp:at_≤p):km base w' g s p l A c R m d xs:=
  ⟨hg,bk h.tok fun k hk=>hb.block k (h.tok.lt k hk).2 (fun e=>cD h.tok h.blk (by decide) (by rw [hk,e])),bk h.rem fun k hk=>hb.block k (h.rem.lt k hk).2 (fun e=>cD h.rem h.blk (by decide) (by rw [hk,e])),Nat.le_trans h.mle hp,h.lo⟩
theorem dg {s:ByteArray} {p k:Nat} (hk:p+k<s.size):k<(s.data.toList.drop p).length:=by
  (have h1:s.data.toList.length=s.size:=by rw [Array.length_toList];rfl);rw [List.length_drop,h1];omega
theorem JZ {s:ByteArray} {p k:Nat} (hk:p+k<s.size):(s.data.toList.drop p)[k]'(dg hk)=s[p+k]:=by
  rw [List.getElem_drop,Array.getElem_toList];rfl
theorem ey.below (h:ey base w g s at_ l) (hb:Below w.heap.size w w'):ey base w' g s at_ l:=by
  obtain ⟨A,c,R,m,d,xs,hm⟩:=h;exact ⟨A,c,R,m,d,xs,hm.blk.below hb hm.blk.lt,own_below hm.tok hb,own_below hm.rem hb,hm.mle,hm.lo⟩
theorem ey.to_ {p:Nat} (h:ey base w g s at_ l) (hp:at_≤p):ey base (w.setCell ⟨g,1,none⟩ (.int .i64 p)) g s p l:=by
  obtain ⟨A,c,R,m,d,xs,hm⟩:=h;exact ⟨A,c,R,m,d,xs,hm.but ((ay.refl (fun k=>k=g) w).set_ (p:=⟨g,1,none⟩) (.inr rfl) _) (by simpa using hm.blk.set_ 1 (.int .i64 p)) hp⟩
theorem ey.cells (h:ey base w g s at_ l):w.cell? ⟨g,0,none⟩=some (.string s)∧w.cell? ⟨g,1,none⟩=some (.int .i64 at_)∧(∀ i,w.frozen? ⟨g,i,none⟩=false)∧g<w.heap.size∧base≤g:=by
  obtain ⟨A,c,R,m,d,xs,hm⟩:=h;have q0:=hm.blk.cell 0;have q1:=hm.blk.cell 1;simp at q0 q1;exact ⟨q0,q1,hm.blk.frozen,hm.blk.lt,hm.lo⟩
theorem tw {p n q:Nat} (hq:p+n=q) (h:ey base w g s p l) (hl:l.length≤1000000) (iw:base≤w.heap.size) (hs:s.size≤140737488355328) (hn:dq (s.data.toList.drop p)=n) (h0:0<n) (JM:n≤60) :
    Calls prog 49 #[.pointer (some ⟨g,0,none⟩)] w fun e w'=>e = .returned (.tuple #[])∧ey base w' g s q (l ++ [⟨if j7 (bs ((s.data.toList.drop p).take n))=true then 4 else 1,p,q,bs ((s.data.toList.drop p).take n)⟩])∧Below base w w':=by
  obtain ⟨Y,hY⟩:∃ Y,bs ((s.data.toList.drop p).take n)=Y:=⟨_,rfl⟩;rw [hY];obtain ⟨kd,WQ⟩:∃ kd:Int,(if j7 Y=true then (4:Int) else 1)=kd:=⟨_,rfl⟩;rw [WQ];have HY:=zh hY;have Vr:=zh WQ;clear hY WQ;have yb:=kZ (l:=s.data.toList.drop p);(have je:s.data.toList.length=s.size:=by rw [Array.length_toList];rfl);rw [hn,List.length_drop,je] at yb;have H0:=zh h;obtain ⟨q0,q1,qf,ql,qb⟩:=h.cells;have HN:=zh hn;have gM:=zh iw;(have uE:(s.size:Int)≤140737488355328:=by omega);(have UO:q≤s.size:=by omega);(have FM:p<q:=by omega);have HQ:=zh hq;clear h hn hq yb;go_enter func49,ntmps49;go_wp2_with fail
  (try go_step3)
  go_wp2_with fail
  go_loopg [] (q - p) (fun m wr=>∃ P:Nat,m=q - P∧p≤P∧P≤q∧Hd (ey base wr g s P l)∧Hd (Below base w wr))
  case atStart=>exact ⟨p,rfl,Nat.le_refl _,by omega,H0,zh (Below.refl _ _)⟩
  case round=>
    obtain ⟨P,rfl,GT,QD,HS,HB⟩:=hrel;clear q0 q1 qf ql qb;obtain ⟨q0,q1,qf,ql,qb⟩:=HS.o.cells;(have La:(P:Int)≤140737488355328:=by omega);by_cases fs:P<s.size
    · have wM:(ly s[P]=true∨p<P∧dZ s[P]=true→P+1≤q)∧(ly s[P]=false→(p<P→dZ s[P]=false)→q=P):=by
        have hj:=HQ.o;have h1:=qn (l:=s.data.toList.drop p) (n:=P - p) (by rw [HN.o];omega) (by rw [List.length_drop,je];omega)
        have hb:(s.data.toList.drop p)[P - p]'(by rw [List.length_drop,je];omega)=s[P]:=by
          rw [List.getElem_drop,Array.getElem_toList];simp only [Nat.add_sub_cancel' GT];rfl
        rw [hb,HN.o] at h1;exact ⟨fun h=>by have:=h1.1 (h.imp_right fun h=>⟨by omega,h.2⟩);omega,fun h2 h3=>by have:=h1.2 h2 (fun h=>h3 (by omega));omega⟩
      obtain ⟨c,hc⟩:∃ c,s[P]=c:=⟨_,rfl⟩;rw [hc] at wM;have fM:=zh wM;have HC:=zh hc;(have Ie:(P:Int)<(s.size:Int):=by omega);clear wM;by_cases kx:d8 c.toNat=true
      · have Qy:P+1≤q:=fM.o.1 (.inl kx)
        go_wp2_with fail;refine wp_region_held_drew (S:=(fun w'=>w'.cell? ⟨g,0,none⟩=some (.string s)∧w'.cell? ⟨g,1,none⟩=some (.int .i64 P))) (by kernel_rfl) (by exact ⟨q0,q1⟩) (fun ac=>?_);refine bw ?_ ac;clear ac;rintro wb hb ac;refine aK 34 (by kernel_rfl) (fun aF=>?_);have fh:Hd (ey base wb g s P l):=zh (HS.o.below hb);have aE:Hd (Below base w wb):=zh (HB.o.trans (hb.mono (by have h9:=HB.o.size;have h8:=gM.o;omega)));clear hb
        skip
        (iterate 20 (refine ao (v:=?_) aF (by decide) (fun _ _ _ h=>h) (Or.inl ⟨by rfl,?_⟩) (by assumption) ?_;rotate_left;(intro W aH;(try dsimp only [ze] at aH);go_simp;first | done | rfl);try simp only [Act.put,cr,cj,ch,UC,UB,VB]));refine fa (by kernel_rfl) (fun K hK=>?_);go_simp
        go_at_call 48
        refine cO.mono ?_;rintro e w1 ⟨rfl,hw⟩;subst w1;rw [kx];refine hK.out _ _ ac (fun ac=>?_);clear hK K;try simp only [Act.put,cr,cj,ch,UC,UB,VB]
        (refine ao (v:=?_) aF (by decide) (fun _ _ _ h=>h) (Or.inl ⟨by rfl,?_⟩) (by assumption) ?_;rotate_left;(intro W aH;(try dsimp only [ze] at aH);go_simp;first | done | rfl);try simp only [Act.put,cr,cj,ch,UC,UB,VB])
        (iterate 10 (refine ao (v:=undef) aF (by decide) (fun _ _ _ h=>h) (Or.inr ⟨by rfl,rfl⟩) (by assumption) ?_;try simp only [Act.put,cr,cj,ch,UC,UB,VB]));(iterate 2 (refine ao (v:=?_) aF (by decide) (fun _ _ _ h=>h) (Or.inl ⟨by rfl,?_⟩) (by assumption) ?_;rotate_left;(intro W aH;(try dsimp only [ze] at aH);go_simp;first | done | rfl);try simp only [Act.put,cr,cj,ch,UC,UB,VB]));refine bz ?_;clear aF;obtain ⟨z0,z1,zf,zl,zb⟩:=fh.o.cells;clear q0 q1 qf ql qb ac;go_wp2_with fail;have p8:Hd (ey base (wb.setCell ⟨g,1,none⟩ (.int .i64 ((P:Int)+1))) g s (P+1) l):=zh (by simpa using fh.o.to_ (p:=P+1) (by omega));have be:Hd (Below base w (wb.setCell ⟨g,1,none⟩ (.int .i64 ((P:Int)+1)))):=zh (aE.o.setCell zb _)
        go_roundg (q - (P+1))
        case measure=>omega
        case rel=>exact ⟨P+1,rfl,by omega,by omega,p8,be⟩
      · by_cases mA:gd c.toNat=true
        · have U0:p<P:=by
            rcases Nat.lt_or_ge p P with e | e
            · exact e
            · have h9:=fM.o.2 (Bool.eq_false_iff.2 kx) (fun h=>by omega)
              omega
          have Qy:P+1≤q:=fM.o.1 (.inr ⟨U0,mA⟩);replace kx:=Bool.eq_false_iff.2 kx;go_wp2_with fail;refine wp_region_held_drew (S:=(fun w'=>w'.cell? ⟨g,0,none⟩=some (.string s)∧w'.cell? ⟨g,1,none⟩=some (.int .i64 P))) (by kernel_rfl) (by exact ⟨q0,q1⟩) (fun ac=>?_);refine bw ?_ ac;clear ac;rintro wb hb ac;refine aK 34 (by kernel_rfl) (fun aF=>?_);have fh:Hd (ey base wb g s P l):=zh (HS.o.below hb);have aE:Hd (Below base w wb):=zh (HB.o.trans (hb.mono (by have h9:=HB.o.size;have h8:=gM.o;omega)));clear hb
          skip
          (iterate 20 (refine ao (v:=?_) aF (by decide) (fun _ _ _ h=>h) (Or.inl ⟨by rfl,?_⟩) (by assumption) ?_;rotate_left;(intro W aH;(try dsimp only [ze] at aH);go_simp;first | done | rfl);try simp only [Act.put,cr,cj,ch,UC,UB,VB]));refine fa (by kernel_rfl) (fun K hK=>?_);go_simp
          go_at_call 48
          refine cO.mono ?_;rintro e w1 ⟨rfl,hw⟩;subst w1;rw [kx];refine hK.out _ _ ac (fun ac=>?_);clear hK K;(try simp only [Act.put,cr,cj,ch,UC,UB,VB]);(iterate 10 (refine ao (v:=?_) aF (by decide) (fun _ _ _ h=>h) (Or.inl ⟨by rfl,?_⟩) (by assumption) ?_;rotate_left;(intro W aH;(try dsimp only [ze] at aH);go_simp;first | done | rfl);try simp only [Act.put,cr,cj,ch,UC,UB,VB]));refine fa (by kernel_rfl) (fun K hK=>?_);go_simp
          go_at_call 50
          refine dW.mono ?_;rintro e w1 ⟨rfl,hw⟩;subst w1;rw [mA];refine hK.out _ _ ac (fun ac=>?_);clear hK K;(try simp only [Act.put,cr,cj,ch,UC,UB,VB]);(iterate 2 (refine ao (v:=?_) aF (by decide) (fun _ _ _ h=>h) (Or.inl ⟨by rfl,?_⟩) (by assumption) ?_;rotate_left;(intro W aH;(try dsimp only [ze] at aH);go_simp;first | done | rfl);try simp only [Act.put,cr,cj,ch,UC,UB,VB]));refine bz ?_;clear aF;obtain ⟨z0,z1,zf,zl,zb⟩:=fh.o.cells;clear q0 q1 qf ql qb ac;go_wp2_with fail;have p8:Hd (ey base (wb.setCell ⟨g,1,none⟩ (.int .i64 ((P:Int)+1))) g s (P+1) l):=zh (by simpa using fh.o.to_ (p:=P+1) (by omega));have be:Hd (Below base w (wb.setCell ⟨g,1,none⟩ (.int .i64 ((P:Int)+1)))):=zh (aE.o.setCell zb _)
          go_roundg (q - (P+1))
          case measure=>omega
          case rel=>exact ⟨P+1,rfl,by omega,by omega,p8,be⟩
        · obtain rfl:P=q:=(fM.o.2 (Bool.eq_false_iff.2 kx) (fun _=>Bool.eq_false_iff.2 mA)).symm
          replace kx:=Bool.eq_false_iff.2 kx;replace mA:=Bool.eq_false_iff.2 mA;go_wp2_with fail;refine wp_region_held_drew (S:=(fun w'=>w'.cell? ⟨g,0,none⟩=some (.string s)∧w'.cell? ⟨g,1,none⟩=some (.int .i64 P))) (by kernel_rfl) (by exact ⟨q0,q1⟩) (fun ac=>?_);refine bw ?_ ac;clear ac;rintro wb hb ac;refine aK 34 (by kernel_rfl) (fun aF=>?_);have fh:Hd (ey base wb g s P l):=zh (HS.o.below hb);have aE:Hd (Below base w wb):=zh (HB.o.trans (hb.mono (by have h9:=HB.o.size;have h8:=gM.o;omega)));clear hb
          skip
          (iterate 20 (refine ao (v:=?_) aF (by decide) (fun _ _ _ h=>h) (Or.inl ⟨by rfl,?_⟩) (by assumption) ?_;rotate_left;(intro W aH;(try dsimp only [ze] at aH);go_simp;first | done | rfl);try simp only [Act.put,cr,cj,ch,UC,UB,VB]));refine fa (by kernel_rfl) (fun K hK=>?_);go_simp
          go_at_call 48
          refine cO.mono ?_;rintro e w1 ⟨rfl,hw⟩;subst w1;rw [kx];refine hK.out _ _ ac (fun ac=>?_);clear hK K;(try simp only [Act.put,cr,cj,ch,UC,UB,VB]);(iterate 10 (refine ao (v:=?_) aF (by decide) (fun _ _ _ h=>h) (Or.inl ⟨by rfl,?_⟩) (by assumption) ?_;rotate_left;(intro W aH;(try dsimp only [ze] at aH);go_simp;first | done | rfl);try simp only [Act.put,cr,cj,ch,UC,UB,VB]));refine fa (by kernel_rfl) (fun K hK=>?_);go_simp
          go_at_call 50
          refine dW.mono ?_;rintro e w1 ⟨rfl,hw⟩;subst w1;rw [mA];refine hK.out _ _ ac (fun ac=>?_);clear hK K;(try simp only [Act.put,cr,cj,ch,UC,UB,VB]);(iterate 2 (refine ao (v:=?_) aF (by decide) (fun _ _ _ h=>h) (Or.inl ⟨by rfl,?_⟩) (by assumption) ?_;rotate_left;(intro W aH;(try dsimp only [ze] at aH);go_simp;first | done | rfl);try simp only [Act.put,cr,cj,ch,UC,UB,VB]));refine bz ?_;clear aF;have KT:=fh;have H9:=aE;have GK:=H9.o.size;obtain ⟨z0,z1,zf,zl,zb⟩:=KT.o.cells;clear q0 q1 qf ql qb;(have D6:(p:Int)≤(P:Int):=by omega);(have K_:(P:Int)≤(s.size:Int):=by omega);go_wp2_with fail
          go_region
          all_goals
            obtain ⟨X,hX⟩:∃ X,s.extract p P=X:=⟨_,rfl⟩;rw [hX];(have Ei:X.size=n:=by rw [← hX,ByteArray.size_extract];have:=HQ.o;omega);(have JI:X=Y:=by rw [← hX,← HQ.o,ma];exact HY.o);(have R8:decide ((X.size:Int)>60)=false:=by simp;omega);have Fh:=zh JI;have dI:Hd (ey base wb.drew g s P l):=zh (KT.o.below (Below.refl _ _).drew);clear hX JI Ei;go_wp2_with fail;refine s_.mono ?_;rintro e w1 ⟨rfl,hw⟩;subst w1;by_cases AC:j7 X=true
            · rw [AC]
              go_wp2_with fail;refine (dR dI.o hl).mono ?_;rintro e w2 ⟨rfl,BR,uF⟩;have kk:=zh BR;have aR:Hd (Below base w w2):=zh (H9.o.drew.trans uF);clear BR uF;go_wp2_with fail
              go_end0
              (have Nq:kd=4:=by rw [← Vr.o,← Fh.o,if_pos AC]);exact ⟨rfl,by rw [Nq,← Fh.o];exact kk.o,aR.o⟩
            · replace AC:=Bool.eq_false_iff.2 AC
              rw [AC];go_wp2_with fail;refine (dR dI.o hl).mono ?_;rintro e w2 ⟨rfl,BR,uF⟩;have kk:=zh BR;have aR:Hd (Below base w w2):=zh (H9.o.drew.trans uF);clear BR uF;go_wp2_with fail
              go_end0
              (have AE:kd=1:=by rw [← Vr.o,← Fh.o,AC,if_neg (by decide)]);exact ⟨rfl,by rw [AE,← Fh.o];exact kk.o,aR.o⟩
    · obtain rfl:P=q:=by omega
      (have Ie:decide ((P:Int)<(s.size:Int))=false:=by simp;omega);go_wp2_with fail;refine wp_region_held_drew (S:=(fun w'=>w'.cell? ⟨g,0,none⟩=some (.string s)∧w'.cell? ⟨g,1,none⟩=some (.int .i64 P))) (by kernel_rfl) (by exact ⟨q0,q1⟩) (fun ac=>?_);refine bw ?_ ac;clear ac;rintro wb hb ac;refine aK 34 (by kernel_rfl) (fun aF=>?_);have fh:Hd (ey base wb g s P l):=zh (HS.o.below hb);have aE:Hd (Below base w wb):=zh (HB.o.trans (hb.mono (by have h9:=HB.o.size;have h8:=gM.o;omega)));clear hb
      skip
      (iterate 11 (refine ao (v:=?_) aF (by decide) (fun _ _ _ h=>h) (Or.inl ⟨by rfl,?_⟩) (by assumption) ?_;rotate_left;(intro W aH;(try dsimp only [ze] at aH);go_simp;first | done | rfl);try simp only [Act.put,cr,cj,ch,UC,UB,VB]));iterate 22 (refine ao (v:=undef) aF (by decide) (fun _ _ _ h=>h) (Or.inr ⟨by rfl,rfl⟩) (by assumption) ?_;try simp only [Act.put,cr,cj,ch,UC,UB,VB])
      (refine ao (v:=?_) aF (by decide) (fun _ _ _ h=>h) (Or.inl ⟨by rfl,?_⟩) (by assumption) ?_;rotate_left;(intro W aH;(try dsimp only [ze] at aH);go_simp;first | done | rfl);try simp only [Act.put,cr,cj,ch,UC,UB,VB])
      refine bz ?_;clear aF;have KT:=fh;have H9:=aE;have GK:=H9.o.size;obtain ⟨z0,z1,zf,zl,zb⟩:=KT.o.cells;clear q0 q1 qf ql qb;(have D6:(p:Int)≤(P:Int):=by omega);(have K_:(P:Int)≤(s.size:Int):=by omega);go_wp2_with fail
      go_region
      all_goals
        obtain ⟨X,hX⟩:∃ X,s.extract p P=X:=⟨_,rfl⟩;rw [hX];(have Ei:X.size=n:=by rw [← hX,ByteArray.size_extract];have:=HQ.o;omega);(have JI:X=Y:=by rw [← hX,← HQ.o,ma];exact HY.o);(have R8:decide ((X.size:Int)>60)=false:=by simp;omega);have Fh:=zh JI;have dI:Hd (ey base wb.drew g s P l):=zh (KT.o.below (Below.refl _ _).drew);clear hX JI Ei;go_wp2_with fail;refine s_.mono ?_;rintro e w1 ⟨rfl,hw⟩;subst w1;by_cases AC:j7 X=true
        · rw [AC]
          go_wp2_with fail;refine (dR dI.o hl).mono ?_;rintro e w2 ⟨rfl,BR,uF⟩;have kk:=zh BR;have aR:Hd (Below base w w2):=zh (H9.o.drew.trans uF);clear BR uF;go_wp2_with fail
          go_end0
          (have Nq:kd=4:=by rw [← Vr.o,← Fh.o,if_pos AC]);exact ⟨rfl,by rw [Nq,← Fh.o];exact kk.o,aR.o⟩
        · replace AC:=Bool.eq_false_iff.2 AC
          rw [AC];go_wp2_with fail;refine (dR dI.o hl).mono ?_;rintro e w2 ⟨rfl,BR,uF⟩;have kk:=zh BR;have aR:Hd (Below base w w2):=zh (H9.o.drew.trans uF);clear BR uF;go_wp2_with fail
          go_end0
          (have AE:kd=1:=by rw [← Vr.o,← Fh.o,AC,if_neg (by decide)]);exact ⟨rfl,by rw [AE,← Fh.o];exact kk.o,aR.o⟩
theorem pP {p n q:Nat} (hq:p+n=q) (h:ey base w g s p l) (hl:l.length≤1000000) (iw:base≤w.heap.size) (hs:s.size≤140737488355328) (hn:gl (s.data.toList.drop p)=some n) (h0:0<n) :
    Calls prog 51 #[.pointer (some ⟨g,0,none⟩)] w fun e w'=>e = .returned (.tuple #[])∧ey base w' g s q (l ++ [⟨2,p,q,bs ((s.data.toList.drop p).take n)⟩])∧Below base w w':=by
  obtain ⟨Y,hY⟩:∃ Y,bs ((s.data.toList.drop p).take n)=Y:=⟨_,rfl⟩;rw [hY];have HY:=zh hY;clear hY;(have je:s.data.toList.length=s.size:=by rw [Array.length_toList];rfl);have hg:∀ k (hk:p+k<s.size),(s.data.toList.drop p)[k]'(dg hk)=s[p+k]:=fun k hk=>JZ hk;unfold gl at hn;split at hn
  · cases hn
  rename_i x_
  have LR:((s.data.toList.drop p).takeWhile dZ).length=n:=Option.some.inj hn;rw [LR] at x_;have yb:=AY (p:=dZ) (l:=s.data.toList.drop p);rw [LR,List.length_drop,je] at yb
  have et:∀ (hk:p<s.size),s[p]=48→¬ 1<n:=fun hk e h1=>x_ (.inl ⟨by
    rw [List.headD_eq_head?_getD,List.head?_eq_getElem?,List.getElem?_eq_getElem (by rw [List.length_drop,je];omega)]
    exact (hg 0 hk).trans e,h1⟩)
  have ep:¬ 200<n:=fun h=>x_ (.inr (.inl h))
  have fK:∀ (hk:p+n<s.size),ly s[p+n]=false:=fun hk=>Bool.eq_false_iff.2 fun h=>x_ (.inr (.inr ⟨s[p+n],by
    rw [List.head?_drop,List.getElem?_eq_getElem (by rw [List.length_drop,je];omega),hg n hk]
    rfl,h⟩))
  rw [hq] at fK;have H0:=zh h;obtain ⟨q0,q1,qf,ql,qb⟩:=h.cells;have HN:=zh LR;have HG:=zh hg;have ZN:=zh et;have TU:=zh fK;have gM:=zh iw;(have uE:(s.size:Int)≤140737488355328:=by omega);(have UO:q≤s.size:=by omega);(have FM:p<q:=by omega);have HQ:=zh hq;clear h hn hq yb x_ LR hg et fK;go_enter func51,ntmps51;go_wp2_with fail
  (try go_step3)
  go_wp2_with fail
  go_loopg [] (q - p) (fun m wr=>∃ P:Nat,m=q - P∧p≤P∧P≤q∧Hd (ey base wr g s P l)∧Hd (Below base w wr))
  case atStart=>exact ⟨p,rfl,Nat.le_refl _,by omega,H0,zh (Below.refl _ _)⟩
  case round=>
    obtain ⟨P,rfl,GT,QD,HS,HB⟩:=hrel;clear q0 q1 qf ql qb;obtain ⟨q0,q1,qf,ql,qb⟩:=HS.o.cells;(have La:(P:Int)≤140737488355328:=by omega);by_cases fs:P<s.size
    · have wM:(dZ s[P]=true→P+1≤q)∧(dZ s[P]=false→q=P):=by
        have hj:=HQ.o;have h1:=oZ (p:=dZ) (l:=s.data.toList.drop p) (m:=P - p) (by rw [HN.o];omega) (by rw [List.length_drop,je];omega);have hb:=HG.o (P - p) (by omega);simp only [Nat.add_sub_cancel' GT] at hb;rw [hb,HN.o] at h1;exact ⟨fun h=>by have:=h1.1 h;omega,fun h2=>by have:=h1.2 h2;omega⟩
      obtain ⟨c,hc⟩:∃ c,s[P]=c:=⟨_,rfl⟩;rw [hc] at wM;have fM:=zh wM;have HC:=zh hc;(have Ie:(P:Int)<(s.size:Int):=by omega);clear wM;by_cases mA:gd c.toNat=true
      · have Qy:P+1≤q:=fM.o.1 mA
        go_wp2_with fail;refine wp_region_held_drew (S:=(fun w'=>w'.cell? ⟨g,0,none⟩=some (.string s)∧w'.cell? ⟨g,1,none⟩=some (.int .i64 P))) (by kernel_rfl) (by exact ⟨q0,q1⟩) (fun ac=>?_);refine bw ?_ ac;clear ac;rintro wb hb ac;refine aK 22 (by kernel_rfl) (fun aF=>?_);have fh:Hd (ey base wb g s P l):=zh (HS.o.below hb);have aE:Hd (Below base w wb):=zh (HB.o.trans (hb.mono (by have h9:=HB.o.size;have h8:=gM.o;omega)));clear hb
        skip
        (iterate 20 (refine ao (v:=?_) aF (by decide) (fun _ _ _ h=>h) (Or.inl ⟨by rfl,?_⟩) (by assumption) ?_;rotate_left;(intro W aH;(try dsimp only [ze] at aH);go_simp;first | done | rfl);try simp only [Act.put,cr,cj,ch,UC,UB,VB]));refine fa (by kernel_rfl) (fun K hK=>?_);go_simp
        go_at_call 50
        refine dW.mono ?_;rintro e w1 ⟨rfl,hw⟩;subst w1;rw [mA];refine hK.out _ _ ac (fun ac=>?_);clear hK K;try simp only [Act.put,cr,cj,ch,UC,UB,VB]
        (refine ao (v:=?_) aF (by decide) (fun _ _ _ h=>h) (Or.inl ⟨by rfl,?_⟩) (by assumption) ?_;rotate_left;(intro W aH;(try dsimp only [ze] at aH);go_simp;first | done | rfl);try simp only [Act.put,cr,cj,ch,UC,UB,VB])
        refine bz ?_;clear aF;obtain ⟨z0,z1,zf,zl,zb⟩:=fh.o.cells;clear q0 q1 qf ql qb ac;go_wp2_with fail;have p8:Hd (ey base (wb.setCell ⟨g,1,none⟩ (.int .i64 ((P:Int)+1))) g s (P+1) l):=zh (by simpa using fh.o.to_ (p:=P+1) (by omega));have be:Hd (Below base w (wb.setCell ⟨g,1,none⟩ (.int .i64 ((P:Int)+1)))):=zh (aE.o.setCell zb _)
        go_roundg (q - (P+1))
        case measure=>omega
        case rel=>exact ⟨P+1,rfl,by omega,by omega,p8,be⟩
      · obtain rfl:P=q:=(fM.o.2 (Bool.eq_false_iff.2 mA)).symm
        have HLT:Hd (d8 c.toNat=false):=zh (by have h9:=TU.o fs;rw [hc] at h9;exact h9);replace mA:=Bool.eq_false_iff.2 mA;go_wp2_with fail;refine wp_region_held_drew (S:=(fun w'=>w'.cell? ⟨g,0,none⟩=some (.string s)∧w'.cell? ⟨g,1,none⟩=some (.int .i64 P))) (by kernel_rfl) (by exact ⟨q0,q1⟩) (fun ac=>?_);refine bw ?_ ac;clear ac;rintro wb hb ac;refine aK 22 (by kernel_rfl) (fun aF=>?_);have fh:Hd (ey base wb g s P l):=zh (HS.o.below hb);have aE:Hd (Below base w wb):=zh (HB.o.trans (hb.mono (by have h9:=HB.o.size;have h8:=gM.o;omega)));clear hb
        skip
        (iterate 20 (refine ao (v:=?_) aF (by decide) (fun _ _ _ h=>h) (Or.inl ⟨by rfl,?_⟩) (by assumption) ?_;rotate_left;(intro W aH;(try dsimp only [ze] at aH);go_simp;first | done | rfl);try simp only [Act.put,cr,cj,ch,UC,UB,VB]));refine fa (by kernel_rfl) (fun K hK=>?_);go_simp
        go_at_call 50
        refine dW.mono ?_;rintro e w1 ⟨rfl,hw⟩;subst w1;rw [mA];refine hK.out _ _ ac (fun ac=>?_);clear hK K;try simp only [Act.put,cr,cj,ch,UC,UB,VB]
        (refine ao (v:=?_) aF (by decide) (fun _ _ _ h=>h) (Or.inl ⟨by rfl,?_⟩) (by assumption) ?_;rotate_left;(intro W aH;(try dsimp only [ze] at aH);go_simp;first | done | rfl);try simp only [Act.put,cr,cj,ch,UC,UB,VB])
        refine bz ?_;clear aF;have GK:=aE.o.size;obtain ⟨z0,z1,zf,zl,zb⟩:=fh.o.cells;clear q0 q1 qf ql qb;(have D6:(p:Int)≤(P:Int):=by omega);(have K_:(P:Int)≤(s.size:Int):=by omega);go_wp2_with fail
        go_region
        all_goals
          obtain ⟨X,hX⟩:∃ X,s.extract p P=X:=⟨_,rfl⟩;rw [hX];(have Ei:X.size=n:=by rw [← hX,ByteArray.size_extract];have:=HQ.o;omega);(have JI:X=Y:=by rw [← hX,← HQ.o,ma];exact HY.o);(have Xg:0<X.size:=by omega);(have O9:(0:Int)<(X.size:Int):=by omega);(have R8:decide ((X.size:Int)>200)=false:=by simp;omega);have Fh:=zh JI;have dI:Hd (ey base wb.drew g s P l):=zh (fh.o.below (Below.refl _ _).drew);have xY:X[0]=48→¬ 1<X.size:=fun e h9=>ZN.o (by omega) (by rw [← e];simp only [← hX];rw [ByteArray.getElem_extract];rfl) (by omega);obtain ⟨x0,GN⟩:∃ x,X[0]=x:=⟨_,rfl⟩;rw [GN] at xY;clear hX JI Ei;have z0:wb.drew.cell? ⟨g,0,none⟩=some (.string s):=z0;have z1:wb.drew.cell? ⟨g,1,none⟩=some (.int .i64 P):=z1;have my:=HLT.o;by_cases oD:x0=48
          · have U7:decide ((X.size:Int)>1)=false:=by have:=xY oD;simp;omega
            subst oD;clear xY;go_wp2_with fail;refine wp_region_held_drew (S:=(fun w'=>w'.cell? ⟨g,0,none⟩=some (.string s)∧w'.cell? ⟨g,1,none⟩=some (.int .i64 P))) (by kernel_rfl) (by exact ⟨z0,z1⟩) (fun ac=>?_);refine bw ?_ ac;clear ac;rintro wc hb ac;refine aK 37 (by kernel_rfl) (fun aF=>?_);have kk:Hd (ey base wc g s P l):=zh (dI.o.below hb);have aR:Hd (Below base w wc):=zh (aE.o.drew.trans (hb.mono (by have h9:=aE.o.size;have h8:=gM.o;show base≤wb.heap.size;omega)));clear hb z0 z1
            skip
            (iterate 4 (refine ao (v:=?_) aF (by decide) (fun _ _ _ h=>h) (Or.inl ⟨by rfl,?_⟩) (by assumption) ?_;rotate_left;(intro W aH;(try dsimp only [ze] at aH);go_simp;first | done | rfl);try simp only [Act.put,cr,cj,ch,UC,UB,VB]));(iterate 3 (refine ao (v:=?_) aF (by decide) (fun _ _ _ h=>h) (Or.inl ⟨by rfl,?_⟩) (by assumption) ?_;rotate_left;(intro W aH;(try dsimp only [ze] at aH);go_simp;first | done | rfl);try simp only [Act.put,cr,cj,ch,UC,UB,VB]));(iterate 18 (refine ao (v:=?_) aF (by decide) (fun _ _ _ h=>h) (Or.inl ⟨by rfl,?_⟩) (by assumption) ?_;rotate_left;(intro W aH;(try dsimp only [ze] at aH);go_simp;first | done | rfl);try simp only [Act.put,cr,cj,ch,UC,UB,VB]));(iterate 9 (refine ao (v:=?_) aF (by decide) (fun _ _ _ h=>h) (Or.inl ⟨by rfl,?_⟩) (by assumption) ?_;rotate_left;(intro W aH;(try dsimp only [ze] at aH);go_simp;first | done | rfl);try simp only [Act.put,cr,cj,ch,UC,UB,VB]));refine fa (by kernel_rfl) (fun K hK=>?_);go_simp
            go_at_call 48
            refine cO.mono ?_;rintro e w1 ⟨rfl,hw⟩;subst w1;rw [my];refine hK.out _ _ ac (fun ac=>?_);clear hK K;(try simp only [Act.put,cr,cj,ch,UC,UB,VB]);(iterate 2 (refine ao (v:=?_) aF (by decide) (fun _ _ _ h=>h) (Or.inl ⟨by rfl,?_⟩) (by assumption) ?_;rotate_left;(intro W aH;(try dsimp only [ze] at aH);go_simp;first | done | rfl);try simp only [Act.put,cr,cj,ch,UC,UB,VB]));refine bz ?_;clear aF;clear ac;go_wp2_with fail;refine (dR kk.o hl).mono ?_;rintro e w2 ⟨rfl,lJ,ft⟩;have rY:=zh lJ;have bf:Hd (Below base w w2):=zh (aR.o.trans ft);clear lJ ft;go_wp2_with fail
            go_end0
            exact ⟨rfl,by rw [← Fh.o];exact rY.o,bf.o⟩
          · have UM:((x0.toNat:Int) == 48)=false:=by
              rw [beq_eq_false_iff_ne];intro e;apply oD;exact UInt8.toNat_inj.1 (by show x0.toNat=48;omega)
            clear xY;go_wp2_with fail;refine wp_region_held_drew (S:=(fun w'=>w'.cell? ⟨g,0,none⟩=some (.string s)∧w'.cell? ⟨g,1,none⟩=some (.int .i64 P))) (by kernel_rfl) (by exact ⟨z0,z1⟩) (fun ac=>?_);refine bw ?_ ac;clear ac;rintro wc hb ac;refine aK 37 (by kernel_rfl) (fun aF=>?_);have kk:Hd (ey base wc g s P l):=zh (dI.o.below hb);have aR:Hd (Below base w wc):=zh (aE.o.drew.trans (hb.mono (by have h9:=aE.o.size;have h8:=gM.o;show base≤wb.heap.size;omega)));clear hb z0 z1
            skip
            (iterate 4 (refine ao (v:=?_) aF (by decide) (fun _ _ _ h=>h) (Or.inl ⟨by rfl,?_⟩) (by assumption) ?_;rotate_left;(intro W aH;(try dsimp only [ze] at aH);go_simp;first | done | rfl);try simp only [Act.put,cr,cj,ch,UC,UB,VB]));(iterate 3 (refine ao (v:=undef) aF (by decide) (fun _ _ _ h=>h) (Or.inr ⟨by rfl,rfl⟩) (by assumption) ?_;try simp only [Act.put,cr,cj,ch,UC,UB,VB]));(iterate 18 (refine ao (v:=?_) aF (by decide) (fun _ _ _ h=>h) (Or.inl ⟨by rfl,?_⟩) (by assumption) ?_;rotate_left;(intro W aH;(try dsimp only [ze] at aH);go_simp;first | done | rfl);try simp only [Act.put,cr,cj,ch,UC,UB,VB]));(iterate 9 (refine ao (v:=?_) aF (by decide) (fun _ _ _ h=>h) (Or.inl ⟨by rfl,?_⟩) (by assumption) ?_;rotate_left;(intro W aH;(try dsimp only [ze] at aH);go_simp;first | done | rfl);try simp only [Act.put,cr,cj,ch,UC,UB,VB]));refine fa (by kernel_rfl) (fun K hK=>?_);go_simp
            go_at_call 48
            refine cO.mono ?_;rintro e w1 ⟨rfl,hw⟩;subst w1;rw [my];refine hK.out _ _ ac (fun ac=>?_);clear hK K;(try simp only [Act.put,cr,cj,ch,UC,UB,VB]);(iterate 2 (refine ao (v:=?_) aF (by decide) (fun _ _ _ h=>h) (Or.inl ⟨by rfl,?_⟩) (by assumption) ?_;rotate_left;(intro W aH;(try dsimp only [ze] at aH);go_simp;first | done | rfl);try simp only [Act.put,cr,cj,ch,UC,UB,VB]));refine bz ?_;clear aF;clear ac;go_wp2_with fail;refine (dR kk.o hl).mono ?_;rintro e w2 ⟨rfl,lJ,ft⟩;have rY:=zh lJ;have bf:Hd (Below base w w2):=zh (aR.o.trans ft);clear lJ ft;go_wp2_with fail
            go_end0
            exact ⟨rfl,by rw [← Fh.o];exact rY.o,bf.o⟩
    · obtain rfl:P=q:=by omega
      (have Ie:decide ((P:Int)<(s.size:Int))=false:=by simp;omega);go_wp2_with fail;refine wp_region_held_drew (S:=(fun w'=>w'.cell? ⟨g,0,none⟩=some (.string s)∧w'.cell? ⟨g,1,none⟩=some (.int .i64 P))) (by kernel_rfl) (by exact ⟨q0,q1⟩) (fun ac=>?_);refine bw ?_ ac;clear ac;rintro wb hb ac;refine aK 22 (by kernel_rfl) (fun aF=>?_);have fh:Hd (ey base wb g s P l):=zh (HS.o.below hb);have aE:Hd (Below base w wb):=zh (HB.o.trans (hb.mono (by have h9:=HB.o.size;have h8:=gM.o;omega)));clear hb
      skip
      (iterate 11 (refine ao (v:=?_) aF (by decide) (fun _ _ _ h=>h) (Or.inl ⟨by rfl,?_⟩) (by assumption) ?_;rotate_left;(intro W aH;(try dsimp only [ze] at aH);go_simp;first | done | rfl);try simp only [Act.put,cr,cj,ch,UC,UB,VB]));iterate 10 (refine ao (v:=undef) aF (by decide) (fun _ _ _ h=>h) (Or.inr ⟨by rfl,rfl⟩) (by assumption) ?_;try simp only [Act.put,cr,cj,ch,UC,UB,VB])
      (refine ao (v:=?_) aF (by decide) (fun _ _ _ h=>h) (Or.inl ⟨by rfl,?_⟩) (by assumption) ?_;rotate_left;(intro W aH;(try dsimp only [ze] at aH);go_simp;first | done | rfl);try simp only [Act.put,cr,cj,ch,UC,UB,VB])
      refine bz ?_;clear aF;have GK:=aE.o.size;obtain ⟨z0,z1,zf,zl,zb⟩:=fh.o.cells;clear q0 q1 qf ql qb;(have D6:(p:Int)≤(P:Int):=by omega);(have K_:(P:Int)≤(s.size:Int):=by omega);go_wp2_with fail
      go_region
      all_goals
        obtain ⟨X,hX⟩:∃ X,s.extract p P=X:=⟨_,rfl⟩;rw [hX];(have Ei:X.size=n:=by rw [← hX,ByteArray.size_extract];have:=HQ.o;omega);(have JI:X=Y:=by rw [← hX,← HQ.o,ma];exact HY.o);(have Xg:0<X.size:=by omega);(have O9:(0:Int)<(X.size:Int):=by omega);(have R8:decide ((X.size:Int)>200)=false:=by simp;omega);have Fh:=zh JI;have dI:Hd (ey base wb.drew g s P l):=zh (fh.o.below (Below.refl _ _).drew);have xY:X[0]=48→¬ 1<X.size:=fun e h9=>ZN.o (by omega) (by rw [← e];simp only [← hX];rw [ByteArray.getElem_extract];rfl) (by omega);obtain ⟨x0,GN⟩:∃ x,X[0]=x:=⟨_,rfl⟩;rw [GN] at xY;clear hX JI Ei;have z0:wb.drew.cell? ⟨g,0,none⟩=some (.string s):=z0;have z1:wb.drew.cell? ⟨g,1,none⟩=some (.int .i64 P):=z1;by_cases oD:x0=48
        · have U7:decide ((X.size:Int)>1)=false:=by have:=xY oD;simp;omega
          subst oD;clear xY;go_wp2_with fail;refine wp_region_held_drew (S:=(fun w'=>w'.cell? ⟨g,0,none⟩=some (.string s)∧w'.cell? ⟨g,1,none⟩=some (.int .i64 P))) (by kernel_rfl) (by exact ⟨z0,z1⟩) (fun ac=>?_);refine bw ?_ ac;clear ac;rintro wc hb ac;refine aK 37 (by kernel_rfl) (fun aF=>?_);have kk:Hd (ey base wc g s P l):=zh (dI.o.below hb);have aR:Hd (Below base w wc):=zh (aE.o.drew.trans (hb.mono (by have h9:=aE.o.size;have h8:=gM.o;show base≤wb.heap.size;omega)));clear hb z0 z1
          skip
          (iterate 4 (refine ao (v:=?_) aF (by decide) (fun _ _ _ h=>h) (Or.inl ⟨by rfl,?_⟩) (by assumption) ?_;rotate_left;(intro W aH;(try dsimp only [ze] at aH);go_simp;first | done | rfl);try simp only [Act.put,cr,cj,ch,UC,UB,VB]));(iterate 3 (refine ao (v:=?_) aF (by decide) (fun _ _ _ h=>h) (Or.inl ⟨by rfl,?_⟩) (by assumption) ?_;rotate_left;(intro W aH;(try dsimp only [ze] at aH);go_simp;first | done | rfl);try simp only [Act.put,cr,cj,ch,UC,UB,VB]));(iterate 18 (refine ao (v:=?_) aF (by decide) (fun _ _ _ h=>h) (Or.inl ⟨by rfl,?_⟩) (by assumption) ?_;rotate_left;(intro W aH;(try dsimp only [ze] at aH);go_simp;first | done | rfl);try simp only [Act.put,cr,cj,ch,UC,UB,VB]));(iterate 10 (refine ao (v:=undef) aF (by decide) (fun _ _ _ h=>h) (Or.inr ⟨by rfl,rfl⟩) (by assumption) ?_;try simp only [Act.put,cr,cj,ch,UC,UB,VB]));(iterate 2 (refine ao (v:=?_) aF (by decide) (fun _ _ _ h=>h) (Or.inl ⟨by rfl,?_⟩) (by assumption) ?_;rotate_left;(intro W aH;(try dsimp only [ze] at aH);go_simp;first | done | rfl);try simp only [Act.put,cr,cj,ch,UC,UB,VB]));refine bz ?_;clear aF;clear ac;go_wp2_with fail;refine (dR kk.o hl).mono ?_;rintro e w2 ⟨rfl,lJ,ft⟩;have rY:=zh lJ;have bf:Hd (Below base w w2):=zh (aR.o.trans ft);clear lJ ft;go_wp2_with fail
          go_end0
          exact ⟨rfl,by rw [← Fh.o];exact rY.o,bf.o⟩
        · have UM:((x0.toNat:Int) == 48)=false:=by
            rw [beq_eq_false_iff_ne];intro e;apply oD;exact UInt8.toNat_inj.1 (by show x0.toNat=48;omega)
          clear xY;go_wp2_with fail;refine wp_region_held_drew (S:=(fun w'=>w'.cell? ⟨g,0,none⟩=some (.string s)∧w'.cell? ⟨g,1,none⟩=some (.int .i64 P))) (by kernel_rfl) (by exact ⟨z0,z1⟩) (fun ac=>?_);refine bw ?_ ac;clear ac;rintro wc hb ac;refine aK 37 (by kernel_rfl) (fun aF=>?_);have kk:Hd (ey base wc g s P l):=zh (dI.o.below hb);have aR:Hd (Below base w wc):=zh (aE.o.drew.trans (hb.mono (by have h9:=aE.o.size;have h8:=gM.o;show base≤wb.heap.size;omega)));clear hb z0 z1
          skip
          (iterate 4 (refine ao (v:=?_) aF (by decide) (fun _ _ _ h=>h) (Or.inl ⟨by rfl,?_⟩) (by assumption) ?_;rotate_left;(intro W aH;(try dsimp only [ze] at aH);go_simp;first | done | rfl);try simp only [Act.put,cr,cj,ch,UC,UB,VB]));(iterate 3 (refine ao (v:=undef) aF (by decide) (fun _ _ _ h=>h) (Or.inr ⟨by rfl,rfl⟩) (by assumption) ?_;try simp only [Act.put,cr,cj,ch,UC,UB,VB]));(iterate 18 (refine ao (v:=?_) aF (by decide) (fun _ _ _ h=>h) (Or.inl ⟨by rfl,?_⟩) (by assumption) ?_;rotate_left;(intro W aH;(try dsimp only [ze] at aH);go_simp;first | done | rfl);try simp only [Act.put,cr,cj,ch,UC,UB,VB]));(iterate 10 (refine ao (v:=undef) aF (by decide) (fun _ _ _ h=>h) (Or.inr ⟨by rfl,rfl⟩) (by assumption) ?_;try simp only [Act.put,cr,cj,ch,UC,UB,VB]));(iterate 2 (refine ao (v:=?_) aF (by decide) (fun _ _ _ h=>h) (Or.inl ⟨by rfl,?_⟩) (by assumption) ?_;rotate_left;(intro W aH;(try dsimp only [ze] at aH);go_simp;first | done | rfl);try simp only [Act.put,cr,cj,ch,UC,UB,VB]));refine bz ?_;clear aF;clear ac;go_wp2_with fail;refine (dR kk.o hl).mono ?_;rintro e w2 ⟨rfl,lJ,ft⟩;have rY:=zh lJ;have bf:Hd (Below base w w2):=zh (aR.o.trans ft);clear lJ ft;go_wp2_with fail
          go_end0
          exact ⟨rfl,by rw [← Fh.o];exact rY.o,bf.o⟩
end
set_option maxRecDepth 100000
set_option maxHeartbeats 8000000
def qv (s:ByteArray) (p:Nat) (t:ByteArray):Bool:=decide (p+t.size≤s.size∧s.extract p (p+t.size)=t)
section
variable {w w':World} {base g at_:Nat} {s:ByteArray} {l:List Tk}
theorem eU {p:Nat} {t:ByteArray} (h:ey base w g s p l) (hp:p≤s.size) (hs:s.size≤140737488355328) (ht:t.size≤100) :
    Calls prog 46 #[.pointer (some ⟨g,0,none⟩),.string t] w fun e w'=>e = .returned (.bool (qv s p t))∧Below w.heap.size w w':=by
  obtain ⟨q0,q1,qf,ql,qb⟩:=h.cells;(have D5:(p:Int)≤(s.size:Int):=by omega);(have uE:(s.size:Int)≤140737488355328:=by omega);(have hti:(t.size:Int)≤100:=by omega);(have Qs:IntKind.i64.wrap ((s.size:Int) - (p:Int))=(s.size:Int) - (p:Int):=by rw [IntKind.wrap_i64];omega);(have hw2:IntKind.i64.wrap ((p:Int)+(t.size:Int))=(p:Int)+(t.size:Int):=by rw [IntKind.wrap_i64];omega);clear h;by_cases yb:p+t.size≤s.size
  · have Eb:decide ((s.size:Int) - (p:Int)≥(t.size:Int))=true:=by simp;omega
    (have UX:(p:Int)+(t.size:Int)≤(s.size:Int):=by omega);(have UJ:(0:Int)≤(p:Int)+(t.size:Int):=by omega);(have et:(p:Int)≤(p:Int)+(t.size:Int):=by omega);(have ep:((p:Int)+(t.size:Int)).toNat=p+t.size:=by omega);obtain ⟨X,hX⟩:∃ X,s.extract p (p+t.size)=X:=⟨_,rfl⟩;have HR:Hd (qv s p t=decide (X=t)):=zh (by unfold qv;rw [hX];exact decide_eq_decide.2 ⟨fun h=>h.2,fun h=>⟨yb,h⟩⟩);rw [HR.o];go_enter func46,ntmps46;go_wp2_with fail;refine wp_region_held_drew (S:=(fun w'=>w'.cell? ⟨g,0,none⟩=some (.string s)∧w'.cell? ⟨g,1,none⟩=some (.int .i64 p))) (by kernel_rfl) (by exact ⟨q0,q1⟩) (fun ac=>?_);refine bw ?_ ac;clear ac;rintro wb hb ac;refine aK 34 (by kernel_rfl) (fun aF=>?_);clear q0 q1
    skip
    (iterate 34 (refine ao (v:=?_) aF (by decide) (fun _ _ _ h=>h) (Or.inl ⟨by rfl,?_⟩) (by assumption) ?_;rotate_left;(intro W aH;(try dsimp only [ze] at aH);go_simp;first | done | rfl);try simp only [Act.put,cr,cj,ch,UC,UB,VB]));refine bz ?_;clear aF;go_wp2_with fail;go_ret;exact ⟨by rw [← ip];rfl,hb⟩
  · have Eb:decide ((s.size:Int) - (p:Int)≥(t.size:Int))=false:=by simp;omega
    have HR:Hd (qv s p t=false):=zh (by unfold qv;exact decide_eq_false fun h=>yb h.1);rw [HR.o];go_enter func46,ntmps46;go_wp2_with fail;refine wp_region_held_drew (S:=(fun w'=>w'.cell? ⟨g,0,none⟩=some (.string s)∧w'.cell? ⟨g,1,none⟩=some (.int .i64 p))) (by kernel_rfl) (by exact ⟨q0,q1⟩) (fun ac=>?_);refine bw ?_ ac;clear ac;rintro wb hb ac;refine aK 34 (by kernel_rfl) (fun aF=>?_);clear q0 q1
    skip
    (iterate 14 (refine ao (v:=?_) aF (by decide) (fun _ _ _ h=>h) (Or.inl ⟨by rfl,?_⟩) (by assumption) ?_;rotate_left;(intro W aH;(try dsimp only [ze] at aH);go_simp;first | done | rfl);try simp only [Act.put,cr,cj,ch,UC,UB,VB]));(iterate 18 (refine ao (v:=undef) aF (by decide) (fun _ _ _ h=>h) (Or.inr ⟨by rfl,rfl⟩) (by assumption) ?_;try simp only [Act.put,cr,cj,ch,UC,UB,VB]));(iterate 2 (refine ao (v:=?_) aF (by decide) (fun _ _ _ h=>h) (Or.inl ⟨by rfl,?_⟩) (by assumption) ?_;rotate_left;(intro W aH;(try dsimp only [ze] at aH);go_simp;first | done | rfl);try simp only [Act.put,cr,cj,ch,UC,UB,VB]));refine bz ?_;clear aF;go_wp2_with fail;go_ret;exact ⟨rfl,hb⟩
end
def mn:List ByteArray:=[⟨#[46,46,46]⟩,⟨#[124,124]⟩,⟨#[38,38]⟩,⟨#[61,61]⟩,⟨#[33,61]⟩,⟨#[60,61]⟩,⟨#[62,61]⟩,⟨#[58,61]⟩,⟨#[43,61]⟩,⟨#[45,61]⟩,⟨#[42,61]⟩,⟨#[47,61]⟩,⟨#[37,61]⟩,⟨#[43,43]⟩,⟨#[45,45]⟩,⟨#[60,45]⟩,⟨#[43]⟩,⟨#[45]⟩,⟨#[42]⟩,⟨#[47]⟩,⟨#[37]⟩,⟨#[38]⟩,⟨#[33]⟩,⟨#[61]⟩,⟨#[60]⟩,⟨#[62]⟩,⟨#[40]⟩,⟨#[41]⟩,⟨#[91]⟩,⟨#[93]⟩,⟨#[123]⟩,⟨#[125]⟩,⟨#[44]⟩,⟨#[46]⟩,⟨#[58]⟩,⟨#[124]⟩]
def Bd:Array Value:=#[.string ⟨#[46,46,46]⟩,.string ⟨#[124,124]⟩,.string ⟨#[38,38]⟩,.string ⟨#[61,61]⟩,.string ⟨#[33,61]⟩,.string ⟨#[60,61]⟩,.string ⟨#[62,61]⟩,.string ⟨#[58,61]⟩,.string ⟨#[43,61]⟩,.string ⟨#[45,61]⟩,.string ⟨#[42,61]⟩,.string ⟨#[47,61]⟩,.string ⟨#[37,61]⟩,.string ⟨#[43,43]⟩,.string ⟨#[45,45]⟩,.string ⟨#[60,45]⟩,.string ⟨#[43]⟩,.string ⟨#[45]⟩,.string ⟨#[42]⟩,.string ⟨#[47]⟩,.string ⟨#[37]⟩,.string ⟨#[38]⟩,.string ⟨#[33]⟩,.string ⟨#[61]⟩,.string ⟨#[60]⟩,.string ⟨#[62]⟩,.string ⟨#[40]⟩,.string ⟨#[41]⟩,.string ⟨#[91]⟩,.string ⟨#[93]⟩,.string ⟨#[123]⟩,.string ⟨#[125]⟩,.string ⟨#[44]⟩,.string ⟨#[46]⟩,.string ⟨#[58]⟩,.string ⟨#[124]⟩]
theorem Ow:∀ i (h:i<mn.length),Bd[i]? = some (.string mn[i]):=by
  have e:Bd=(mn.map Value.string).toArray:=rfl;intro i h;rw [e];simp [h]
theorem yY (i:Nat) (h:i<36):Bd[i]? = some (.string (mn.getD i ⟨#[]⟩)):=by
  have h1:i<mn.length:=h;rw [Ow i h1,List.getD_eq_getElem?_getD,List.getElem?_eq_getElem h1];rfl
theorem LB:∀ i,i<36→∀ k,k<i→(mn.getD i ⟨#[]⟩).size≤(mn.getD k ⟨#[]⟩).size∧mn.getD k ⟨#[]⟩≠mn.getD i ⟨#[]⟩:=by decide +kernel
theorem qY:∀ k,k<36→((mn.getD k ⟨#[]⟩).size=3→mn.getD k ⟨#[]⟩=⟨#[46,46,46]⟩)∧((mn.getD k ⟨#[]⟩).size=2→mx ec (mn.getD k ⟨#[]⟩)=true)∧1≤(mn.getD k ⟨#[]⟩).size∧(mn.getD k ⟨#[]⟩).size≤3:=by decide +kernel
theorem Nx (l:List UInt8):(bs l).extract 0 2=bs (l.take 2):=ma (s:=bs l) (p:=0) (n:=2)
theorem J2 (x:ByteArray):bs x.data.toList=x:=by
  apply ByteArray.ext;simp [bs]
theorem nj {s:ByteArray} {p:Nat} {t:ByteArray} (hp:p≤s.size):qv s p t=true↔t.size≤(s.data.toList.drop p).length∧(s.data.toList.drop p).take t.size=t.data.toList:=by
  (have je:s.data.toList.length=s.size:=by rw [Array.length_toList];rfl);unfold qv;rw [decide_eq_true_iff,List.length_drop,je]
  constructor
  · rintro ⟨h1,h2⟩
    refine ⟨by omega,?_⟩;rw [ma] at h2;have:=congrArg (fun x:ByteArray=>x.data.toList) h2
    simpa [bs] using this
  · rintro ⟨h1,h2⟩
    refine ⟨by omega,?_⟩;rw [ma,h2,J2]
theorem Lq:∀ t ∈ ec,∃ i,i<36∧mn.getD i ⟨#[]⟩=t∧t.size=2:=by decide +kernel
theorem LL:∀ c ∈ kY,∃ i,i<36∧mn.getD i ⟨#[]⟩=bs [c]:=by decide +kernel
theorem yX {s:ByteArray} {p n i:Nat} (D7:1≤n) (hp:p≤s.size) (hi:i<36) (e:mn.getD i ⟨#[]⟩=bs ((s.data.toList.drop p).take n)) (hs:(mn.getD i ⟨#[]⟩).size=n) (hl:n≤(s.data.toList.drop p).length)
    (h3:n<3→Lib.hasPrefix (s.data.toList.drop p) [46,46,46]=false) (h2:n<2→mx ec (bs ((s.data.toList.drop p).take 2))=false) :
    qv s p (mn.getD i ⟨#[]⟩)=true∧∀ k,k<i→qv s p (mn.getD k ⟨#[]⟩)=false:=by
  refine ⟨(nj hp).2 ⟨by omega,by rw [hs,e];simp [bs]⟩,fun k hk=>Bool.eq_false_iff.2 fun h=>?_⟩;obtain ⟨g1,g2⟩:=(nj hp).1 h;obtain ⟨o1,o2⟩:=LB i hi k hk;obtain ⟨w3,w2,w1,w0⟩:=qY k (by omega);(have gy:mn.getD k ⟨#[]⟩=bs ((s.data.toList.drop p).take (mn.getD k ⟨#[]⟩).size):=by rw [g2,J2]);rw [hs] at o1;by_cases c1:(mn.getD k ⟨#[]⟩).size=n
  · rw [c1,← e] at gy
    exact o2 gy
  by_cases c3:(mn.getD k ⟨#[]⟩).size=3
  · have h9:=h3 (by omega)
    rw [c3,w3 c3] at g2
    have:Lib.hasPrefix (s.data.toList.drop p) [46,46,46]=true:=by
      unfold Lib.hasPrefix;rw [List.isPrefixOf_iff_prefix]
      exact ⟨(s.data.toList.drop p).drop 3,by
        have:(s.data.toList.drop p).take 3=[46,46,46]:=g2
        rw [← this,List.take_append_drop]⟩
    rw [h9] at this;cases this
  · have c2:(mn.getD k ⟨#[]⟩).size=2:=by omega
    have h9:=h2 (by omega);have h8:=w2 c2;rw [gy,c2,h9] at h8;cases h8
theorem Gq {s:ByteArray} {p n:Nat} (hn:ce (bs (s.data.toList.drop p))=n) (h0:n≠0) (hp:p<s.size):∃ i,i<36∧qv s p (mn.getD i ⟨#[]⟩)=true∧(∀ k,k<i→qv s p (mn.getD k ⟨#[]⟩)=false)∧mn.getD i ⟨#[]⟩=bs ((s.data.toList.drop p).take n)∧(mn.getD i ⟨#[]⟩).size=n:=by
  (have je:s.data.toList.length=s.size:=by rw [Array.length_toList];rfl);(have hd:(bs (s.data.toList.drop p)).data.toList=s.data.toList.drop p:=by simp [bs]);unfold ce at hn;rw [Nx,hd] at hn;by_cases ha:Lib.hasPrefix (s.data.toList.drop p) [46,46,46]=true
  · rw [if_pos ha] at hn
    subst hn;unfold Lib.hasPrefix at ha;rw [List.isPrefixOf_iff_prefix] at ha;obtain ⟨u,hu⟩:=ha;(have e:mn.getD 0 ⟨#[]⟩=bs ((s.data.toList.drop p).take 3):=by rw [← hu];rfl);obtain ⟨f1,f2⟩:=yX (n:=3) (i:=0) (by decide) (Nat.le_of_lt hp) (by decide) e rfl (by rw [← hu];simp) (fun h=>absurd h (by decide)) (fun h=>absurd h (by decide));exact ⟨0,by decide,f1,f2,e,rfl⟩
  rw [if_neg ha] at hn;replace ha:=Bool.eq_false_iff.2 ha;by_cases hb:mx ec (bs ((s.data.toList.drop p).take 2))=true
  · rw [if_pos hb] at hn
    subst hn;obtain ⟨i,hi,e,e2⟩:=Lq _ (eo hb)
    have hl:2≤(s.data.toList.drop p).length:=by
      have:((s.data.toList.drop p).take 2).length=2:=e2;rw [List.length_take] at this;omega
    obtain ⟨f1,f2⟩:=yX (n:=2) (by decide) (Nat.le_of_lt hp) hi e (by rw [e,e2]) hl (fun _=>ha) (fun h=>absurd h (by decide));exact ⟨i,hi,f1,f2,e,by rw [e,e2]⟩
  rw [if_neg hb] at hn;replace hb:=Bool.eq_false_iff.2 hb;split at hn
  · rename_i hc
    subst hn;have hl:1≤(s.data.toList.drop p).length:=by rw [List.length_drop,je];omega
    obtain ⟨c,t,YY⟩:∃ c t,s.data.toList.drop p=c :: t:=by
      cases h:s.data.toList.drop p with
      | nil=>rw [h] at hl;simp at hl
      | cons c t=>exact ⟨c,t,rfl⟩
    rw [YY] at hc;obtain ⟨m,hm⟩:∃ m:Nat,Lib.indexByte kY ((c :: t).headD 0)=m:=⟨_,(Int.toNat_of_nonneg hc).symm⟩;have h2:=(Lib.indexByte_some hm).1;have U1:c ∈ kY:=List.mem_of_getElem? h2;obtain ⟨i,hi,e⟩:=LL c U1;(have e1:mn.getD i ⟨#[]⟩=bs ((s.data.toList.drop p).take 1):=by rw [e,YY];rfl);obtain ⟨f1,f2⟩:=yX (n:=1) (by decide) (Nat.le_of_lt hp) hi e1 (by rw [e];rfl) hl (fun _=>ha) (fun _=>hb);exact ⟨i,hi,f1,f2,e1,by rw [e];rfl⟩
  · exact absurd hn.symm h0
section
variable {w w':World} {base g at_:Nat} {s:ByteArray} {l:List Tk}
theorem tj {p n q:Nat} (hq:p+n=q) (h:ey base w g s p l) (hl:l.length≤1000000) (iw:base≤w.heap.size) (hs:s.size≤140737488355328) (hp:p<s.size) (hc:s[p]≠59) (hn:ce (bs (s.data.toList.drop p))=n) (h0:n≠0) :
    Calls prog 53 #[.pointer (some ⟨g,0,none⟩)] w fun e w'=>e = .returned (.tuple #[])∧ey base w' g s q (l ++ [⟨5,p,q,bs ((s.data.toList.drop p).take n)⟩])∧Below base w w':=by
  obtain ⟨I,hI,hT,hF,hE,hS⟩:=Gq hn h0 hp;obtain ⟨Y,hY⟩:∃ Y,bs ((s.data.toList.drop p).take n)=Y:=⟨_,rfl⟩;rw [hY] at hE;rw [hY];(have Y5:Y.size=n:=by rw [← hE];exact hS);(have Qx:n≤3:=by have:=(qY I hI).2.2.2;omega);have je:s.data.toList.length=s.size:=by rw [Array.length_toList];rfl
  have UO:q≤s.size:=by
    have:=((nj (Nat.le_of_lt hp)).1 hT).1;rw [hS,List.length_drop,je] at this;omega
  have HA:Hd (∀ (W:World) (k:Nat),ey base W g s p l→k<36→Calls prog 46 #[.pointer (some ⟨g,0,none⟩),.string (mn.getD k ⟨#[]⟩)] W fun e w'=>e = .returned (.bool (qv s p (mn.getD k ⟨#[]⟩)))∧Below W.heap.size W w'):=zh fun W k hW hk=>eU hW (Nat.le_of_lt hp) hs (by have:=(qY k hk).2.2.2;omega);have qN:=zh h;obtain ⟨q0,q1,qf,ql,qb⟩:=h.cells;have HT:=zh hT;have HF:=zh hF;have HE:=zh hE;have HQ:=zh hq;(have D5:(p:Int)<(s.size:Int):=by omega);(have uE:(s.size:Int)≤140737488355328:=by omega);obtain ⟨c,GZ⟩:∃ c,s[p]=c:=⟨_,rfl⟩;rw [GZ] at hc
  have hcf:((c.toNat:Int) == 59)=false:=by
    rw [beq_eq_false_iff_ne];intro e;apply hc;exact UInt8.toNat_inj.1 (by show c.toNat=59;omega)
  have HYS:=zh Y5;clear h hT hF hE hY hn hS hq Y5 hc;go_enter func53,ntmps53;go_wp2_with fail
  go_region
  all_goals
    go_wp2_with fail
    (try go_step3)
    go_wp2_with fail;obtain ⟨W1,ye⟩:∃ W1,W1=(w.alloc (.cells Bd 9)).drew:=⟨_,rfl⟩;have X6:Hd (Below w.heap.size w W1):=zh (by rw [ye];exact (aG _ _).drew);have jS:Hd (aj W1 w.heap.size 9 Bd):=zh (by rw [ye];exact (aj.new w _ _).drew);have et:w.heap.size<W1.heap.size:=jS.o.lt
    go_loopg [4] I (fun m i wr=>∃ k:Nat,m=I - k∧k≤I∧i = .int .i64 k∧Hd (Below W1.heap.size W1 wr))
    case atStart=>exact ⟨0,by simp,by omega,rfl,zh (by rw [ye];exact Below.refl _ _)⟩
    case round=>
      clear q0 q1 qf;obtain ⟨k,rfl,hk,rfl,HB⟩:=hrel;have LN:=HB.o.size;have sn:Hd (Below w.heap.size w wr):=zh (X6.o.trans (HB.o.mono (by omega)));have T0:=zh (qN.o.below sn.o);have Uf:=zh (jS.o.below HB.o (by omega));have hc:=Uf.o.cell k;rw [yY k (by omega)] at hc;(have WP:decide ((k:Int)<36)=true:=by simp;omega);(have Rz:(k:Int)<36:=by omega);go_wp2_with fail;refine (HA.o _ k T0.o (by omega)).mono ?_;rintro e w2 ⟨rfl,cK⟩;have aE:=zh cK;have ep:=cK.size;clear cK;by_cases hkI:k<I
      · rw [HF.o k hkI]
        go_wp2_with fail
        go_roundg (I - (k+1))
        case measure=>omega
        case rel=>exact ⟨k+1,rfl,by omega,by go_num,zh (HB.o.trans (aE.o.mono LN))⟩
      · obtain rfl:k=I:=by omega
        rw [HT.o];have G0:=(Uf.o.below aE.o Uf.o.lt).cell k;rw [yY k (by omega),HE.o] at G0;have fh:=zh (T0.o.below aE.o);obtain ⟨q0,q1,qf,ql2,Q2⟩:=fh.o.cells;(have Wy:(p:Int)+(Y.size:Int)=(q:Int):=by have:=HYS.o;have:=HQ.o;omega);(have Nj:(q:Int)≤140737488355328:=by omega);(have hwq:IntKind.i64.wrap (q:Int)=(q:Int):=by rw [IntKind.wrap_i64];omega);clear hc;go_wp2_with fail
        go_region
        all_goals
          have kk:Hd (ey base ((w2.setCell ⟨g,1,none⟩ (.int .i64 q)).drew) g s q l):=zh ((fh.o.to_ (p:=q) (by have:=HQ.o;omega)).below (Below.refl _ _).drew);have aR:Hd (Below base w ((w2.setCell ⟨g,1,none⟩ (.int .i64 q)).drew)):=zh (((sn.o.mono iw).trans (aE.o.mono (by omega))).setCell Q2 _).drew;(have gQ:g≠w.heap.size:=by omega);clear q0 q1 qf;go_wp2_with fail;refine (dR kk.o hl).mono ?_;rintro e w3 ⟨rfl,lJ,ft⟩;have rY:=zh lJ;have bf:Hd (Below base w w3):=zh (aR.o.trans ft);clear lJ ft;go_wp2_with fail;exact bodyPost_ret (v:=.tuple #[]) (by first | rfl | simp [results,results53,go_sem]) rfl ⟨rfl,rY.o,bf.o⟩
theorem tm {p q:Nat} (hq:p+1=q) (h:ey base w g s p l) (hl:l.length≤1000000) (iw:base≤w.heap.size) (hs:s.size≤140737488355328) (hp:p<s.size) (hc:s[p]=59) :
    Calls prog 53 #[.pointer (some ⟨g,0,none⟩)] w fun e w'=>e = .returned (.tuple #[])∧ey base w' g s q (l ++ [⟨6,p,q,⟨#[59]⟩⟩])∧Below base w w':=by
  have qN:=zh h;obtain ⟨q0,q1,qf,ql,qb⟩:=h.cells;(have D5:(p:Int)<(s.size:Int):=by omega);(have uE:(s.size:Int)≤140737488355328:=by omega);have HQ:=zh hq;(have Wy:(p:Int)+1=(q:Int):=by omega);(have Nj:(q:Int)≤140737488355328:=by omega);(have hwq:IntKind.i64.wrap (q:Int)=(q:Int):=by rw [IntKind.wrap_i64];omega);clear h hq;go_enter func53,ntmps53;go_wp2_with fail
  go_region
  all_goals
    go_wp2_with fail;refine (dR ((qN.o.to_ (p:=q) (by have:=HQ.o;omega)).below (aG _ (.cells Bd 9)).drew) hl).mono ?_;rintro e w3 ⟨rfl,lJ,ft⟩;have rY:=zh lJ;have bf:Hd (Below base w w3):=zh (((((Below.refl _ _).setCell qb _).alloc (by simp;exact iw) _).drew).trans ft);clear lJ ft;go_wp2_with fail;exact bodyPost_ret (v:=.tuple #[]) (by first | rfl | simp [results,results53,go_sem]) rfl ⟨rfl,rY.o,bf.o⟩
end
set_option maxRecDepth 100000
set_option maxHeartbeats 8000000
section
variable {w w':World} {base g at_:Nat} {s:ByteArray} {l:List Tk}
theorem td {q:Nat} {tx:List UInt8} (h:ey base w g s at_ l) (hl:l.length≤100000) (hs:s.size≤65536) (cX:at_<s.size) (iw:base≤w.heap.size) (hr:bP at_ (s.data.toList.drop (at_+1)) (at_+1) [] = .ok (q,tx)) :
    Calls prog 52 #[.pointer (some ⟨g,0,none⟩)] w fun e w'=>e = .returned (.tuple #[])∧ey base w' g s q (l ++ [⟨3,at_,q,⟨tx.toArray⟩⟩])∧Below base w w':=by
  obtain ⟨A,c,R,m,d,xs,hm⟩:=h;have H:=zh hm;have HR:=zh hr;have dA:=hm.lo;have q0:=hm.blk.cell 0;have q1:=hm.blk.cell 1;simp at q0 q1;have qf:=hm.blk.frozen;have ql:=hm.blk.lt;(have U5:(at_:Int)<(s.size:Int):=by omega);(have uE:(s.size:Int)≤65536:=by omega);have MU:Hd (aj (w.setCell ⟨g,1,none⟩ (.int .i64 ((at_:Int)+1))) g 59 #[.string s,.int .i64 ((at_+1:Nat):Int),.slice A l.length c,.slice R m d,.int .i64 0,.string ⟨#[]⟩,.int .i64 0]):=zh (by simpa using hm.blk.set_ 1 (.int .i64 ((at_:Int)+1)));have cT:Hd (ay (fun k=>k=g) w (w.setCell ⟨g,1,none⟩ (.int .i64 ((at_:Int)+1)))):=zh ((ay.refl (fun k=>k=g) _).set_ (p:=⟨g,1,none⟩) (.inr rfl) _);clear hm hr;obtain ⟨i0,fL,ga,f_,fZ⟩:=info_parts zA;go_enter func52,ntmps52;go_wp2_with fail
  (try go_step3)
  go_wp2_with fail
  go_loopg [3] (s.size - at_) (fun mm u3 wr=>∃ (p:Nat) (acc:List UInt8),mm=s.size+1 - p∧at_<p∧p≤s.size∧acc.length≤p∧Hd (wr.ownsRow w.heap.size 5 1 u3 acc.length (vb acc))∧Hd (ay (fun k=>k=g) w wr)∧Hd (aj wr g 59 #[.string s,.int .i64 p,.slice A l.length c,.slice R m d,.int .i64 0,.string ⟨#[]⟩,.int .i64 0])∧Hd (bP at_ (s.data.toList.drop p) p acc = .ok (q,tx)))
  case atStart=>exact ⟨at_+1,[],by omega,by omega,by omega,by simp,zh ⟨by simp [vb],.inl ⟨rfl,by simp [vb]⟩⟩,cT,MU,HR⟩
  case round=>
    obtain ⟨p,acc,rfl,r_,jM,QC,HO,HB,HK,HT⟩:=hrel;(try rename World=>wr);clear q0 q1 qf;have q0:=HK.o.cell 0;have q1:=HK.o.cell 1;simp at q0 q1;have qf:=HK.o.frozen;have y_:=HK.o.lt;have eN:s.data.toList.length=s.size:=by rw [Array.length_toList];rfl
    have fs:p<s.size:=by
      rcases Nat.lt_or_ge p s.size with h9 | h9
      · exact h9
      · have h1:=HT.o
        rw [List.drop_eq_nil_of_le (by omega)] at h1;cases h1
    obtain ⟨x,hx⟩:∃ x,s[p]=x:=⟨_,rfl⟩;(have D5:(p:Int)<(s.size:Int):=by omega);have Ns:decide (s.size≤p)=false:=decide_eq_false (by omega)
    have d9:s.data.toList.drop p=x :: s.data.toList.drop (p+1):=by
      rw [List.drop_eq_getElem_cons (by omega),Array.getElem_toList];exact congrArg (· :: _) hx
    rw [d9] at HT
    have oa:x≠10:=by
      rintro rfl;have h1:=HT.o;unfold bP at h1;cases h1
    have f10:((x.toNat:Int) == 10)=false:=du oa;clear d9;go_wp2_with fail;refine wp_region_held_drew (S:=(fun w'=>w'.cell? ⟨g,0,none⟩=some (.string s)∧w'.cell? ⟨g,1,none⟩=some (.int .i64 p))) (by kernel_rfl) (by exact ⟨q0,q1⟩) (fun ac=>?_);refine bw ?_ ac;clear ac;rintro wa hb ac;refine aK 22 (by kernel_rfl) (fun aF=>?_);have jS:Hd (aj wa g 59 #[.string s,.int .i64 p,.slice A l.length c,.slice R m d,.int .i64 0,.string ⟨#[]⟩,.int .i64 0]):=zh (HK.o.below hb y_);have wJ:Hd (ay (fun k=>k=g) w wa):=zh (HB.o.then_ hb);have Iq:Hd (wa.ownsRow w.heap.size 5 1 u3 acc.length (vb acc)):=zh (own_below HO.o hb);have ox:g<wa.heap.size:=Nat.lt_of_lt_of_le y_ hb.size;clear hb;clear q0 q1;(iterate 22 (refine ao (v:=?_) aF (by decide) (fun _ _ _ h=>h) (Or.inl ⟨by rfl,?_⟩) (by assumption) ?_;rotate_left;(intro W aH;(try dsimp only [ze] at aH);go_simp;first | done | rfl);try simp only [Act.put,cr,cj,ch,UC,UB,VB]));refine bz ?_;clear aF;have q0:=jS.o.cell 0;have q1:=jS.o.cell 1;simp at q0 q1;go_wp2_with fail;refine wp_region_held_drew (S:=(fun w'=>w'.cell? ⟨g,0,none⟩=some (.string s)∧w'.cell? ⟨g,1,none⟩=some (.int .i64 p))) (by kernel_rfl) (by exact ⟨q0,q1⟩) (fun ac=>?_);refine bw ?_ ac;clear ac;rintro wb hb ac;refine aK 10 (by kernel_rfl) (fun aF=>?_);have lT:Hd (aj wb g 59 #[.string s,.int .i64 p,.slice A l.length c,.slice R m d,.int .i64 0,.string ⟨#[]⟩,.int .i64 0]):=zh (jS.o.below hb ox);have wI:Hd (ay (fun k=>k=g) w wb):=zh (wJ.o.then_ hb);have nV:Hd (wb.ownsRow w.heap.size 5 1 u3 acc.length (vb acc)):=zh (own_below Iq.o hb);have iQ:g<wb.heap.size:=Nat.lt_of_lt_of_le ox hb.size;clear hb;clear q0 q1;(iterate 10 (refine ao (v:=?_) aF (by decide) (fun _ _ _ h=>h) (Or.inl ⟨by rfl,?_⟩) (by assumption) ?_;rotate_left;(intro W aH;(try dsimp only [ze] at aH);go_simp;first | done | rfl);try simp only [Act.put,cr,cj,ch,UC,UB,VB]));refine bz ?_;clear aF;have q0:=lT.o.cell 0
    have q1:=lT.o.cell 1;simp at q0 q1;have qf:=lT.o.frozen;by_cases sc:x=34
    · subst sc
      have h1:=HT.o;unfold bP at h1;rw [if_neg (by decide),if_pos rfl] at h1;(obtain ⟨e1,e2⟩:p+1=q∧acc=tx:=by simpa using h1);subst e1 e2;clear HT HR h1;have xL:Hd (aj (wb.setCell ⟨g,1,none⟩ (.int .i64 ((p:Int)+1))) g 59 #[.string s,.int .i64 ((p:Int)+1),.slice A l.length c,.slice R m d,.int .i64 0,.string ⟨#[]⟩,.int .i64 0]):=zh (by simpa using lT.o.set_ 1 (.int .i64 ((p:Int)+1)));have wU:Hd (ay (fun k=>k=g) w (wb.setCell ⟨g,1,none⟩ (.int .i64 ((p:Int)+1)))):=zh (wI.o.set_ (p:=⟨g,1,none⟩) (.inr rfl) _);have Gg:Hd ((wb.setCell ⟨g,1,none⟩ (.int .i64 ((p:Int)+1))).ownsRow w.heap.size 5 1 u3 acc.length (vb acc)):=zh (bk nV.o fun k hk=>Below.heap_setCell wb ⟨g,1,none⟩ _ k (fun e=>by have h9:=(nV.o.lt k hk).1;have h8:k=g:=e;omega));have HCO:=Cl Gg.o;go_wp2_with fail;refine (dR (base:=base) (at_:=p+1) ⟨_,_,_,_,_,_,H.o.but wU.o (by simpa using xL.o) (by omega)⟩ (by omega)).mono ?_;rintro e w4 ⟨rfl,hS,dB⟩;have iW:=zh hS;have bu:=zh ((cH wU.o dA iw).trans dB);clear hS dB;go_wp2_with fail;exact bodyPost_ret (v:=.tuple #[]) (by first | rfl | simp [results,results52,go_sem]) rfl ⟨rfl,iW.o,bu.o⟩
    have Sj:((x.toNat:Int) == 34)=false:=du sc;by_cases C8:x=92
    · subst C8
      have Rj:p+1<s.size:=by
        rcases Nat.lt_or_ge (p+1) s.size with h9 | h9
        · exact h9
        · have h1:=HT.o
          rw [List.drop_eq_nil_of_le (by omega)] at h1;unfold bP at h1;cases h1
      obtain ⟨y,hy⟩:∃ y,s[p+1]=y:=⟨_,rfl⟩
      have d9:s.data.toList.drop (p+1)=y :: s.data.toList.drop (p+2):=by
        rw [List.drop_eq_getElem_cons (by omega),Array.getElem_toList];exact congrArg (· :: _) hy
      rw [d9] at HT;clear d9;obtain ⟨P1,O'⟩:∃ P1,P1=p+1:=⟨_,rfl⟩;(have Sb:P1<s.size:=by omega);(have hyP:s[P1]=y:=by simp only [O'];exact hy);(have Xm:(P1:Int)<(s.size:Int):=by omega);(have La:(p:Int)+1=(P1:Int):=by omega);(have Sa:IntKind.i64.wrap (P1:Int)=(P1:Int):=by rw [IntKind.wrap_i64];omega);clear hy O'
      have HE:Hd (∃ z,oG y=some z∧bP at_ (s.data.toList.drop (p+2)) (p+2) (acc ++ [z]) = .ok (q,tx)):=zh (by
        have h1:=HT.o;unfold bP at h1;rw [if_neg (by decide),if_neg (by decide),if_pos rfl] at h1;cases hz:oG y with
        | none=>simp only [hz] at h1;cases h1
        | some z=>simp only [hz] at h1;exact ⟨z,rfl,h1⟩)
      clear HT;go_wp2_with fail;refine wp_region_held_drew (S:=(fun w'=>w'.cell? ⟨g,0,none⟩=some (.string s)∧w'.cell? ⟨g,1,none⟩=some (.int .i64 p))) (by kernel_rfl) (by exact ⟨q0,q1⟩) (fun ac=>?_);refine bw ?_ ac;clear ac;rintro wc hb ac;refine aK 11 (by kernel_rfl) (fun aF=>?_);have nF:Hd (aj wc g 59 #[.string s,.int .i64 p,.slice A l.length c,.slice R m d,.int .i64 0,.string ⟨#[]⟩,.int .i64 0]):=zh (lT.o.below hb iQ);have Ia:Hd (ay (fun k=>k=g) w wc):=zh (wI.o.then_ hb);have Gg:Hd (wc.ownsRow w.heap.size 5 1 u3 acc.length (vb acc)):=zh (own_below nV.o hb);have pt:g<wc.heap.size:=Nat.lt_of_lt_of_le iQ hb.size;clear hb;clear q0 q1;(iterate 11 (refine ao (v:=?_) aF (by decide) (fun _ _ _ h=>h) (Or.inl ⟨by rfl,?_⟩) (by assumption) ?_;rotate_left;(intro W aH;(try dsimp only [ze] at aH);go_simp;first | done | rfl);try simp only [Act.put,cr,cj,ch,UC,UB,VB]));refine bz ?_;clear aF;have q0:=nF.o.cell 0;have q1:=nF.o.cell 1;simp at q0 q1;go_wp2_with fail;refine wp_region_held_drew (S:=(fun w'=>w'.cell? ⟨g,0,none⟩=some (.string s)∧w'.cell? ⟨g,1,none⟩=some (.int .i64 p))) (by kernel_rfl) (by exact ⟨q0,q1⟩) (fun ac=>?_);refine bw ?_ ac;clear ac;rintro wd hb ac;refine aK 11 (by kernel_rfl) (fun aF=>?_);have qE:Hd (aj wd g 59 #[.string s,.int .i64 p,.slice A l.length c,.slice R m d,.int .i64 0,.string ⟨#[]⟩,.int .i64 0]):=zh (nF.o.below hb pt);have nu:Hd (ay (fun k=>k=g) w wd):=zh (Ia.o.then_ hb);have qO:Hd (wd.ownsRow w.heap.size 5 1 u3 acc.length (vb acc)):=zh (own_below Gg.o hb);have V9:g<wd.heap.size:=Nat.lt_of_lt_of_le pt hb.size;clear hb;clear q0 q1;(iterate 11 (refine ao (v:=?_) aF (by decide) (fun _ _ _ h=>h) (Or.inl ⟨by rfl,?_⟩) (by assumption) ?_;rotate_left;(intro W aH;(try dsimp only [ze] at aH);go_simp;first | done | rfl);try simp only [Act.put,cr,cj,ch,UC,UB,VB]));refine bz ?_;clear aF;have q0:=qE.o.cell 0;have q1:=qE.o.cell 1;simp at q0 q1;clear qf
      have qf:=qE.o.frozen;obtain ⟨z,hz,fH⟩:=HE.o;replace fH:=zh fH;clear HE;by_cases QF:y=92
      · subst QF
        (obtain rfl:(92:UInt8)=z:=by unfold oG at hz;simpa using hz);have rZ:Hd (Row (wd.alloc (.cells #[.int .u8 92] 5)) (fun k=>k=wd.heap.size) 1 (.slice (some ⟨wd.heap.size,0,none⟩) 1 1) 1 [.int .u8 92]):=zh ((aj.new wd 5 #[.int .u8 92]).row (S:=fun k=>k=wd.heap.size) (n:=1) (size:=1) rfl (by unfold maxLen;omega) rfl);go_wp2_with (at_builtin;refine au _ rfl _ _ 40 rfl w.heap.size 5 i0 _ 1 1 underlying40 fL ga f_ fZ rfl (by omega) u3 acc.length (vb acc) rfl (own_below qO.o (aG _ _)) (fun k=>k=wd.heap.size) (.slice (some ⟨wd.heap.size,0,none⟩) 1 1) 1 [.int .u8 92] rfl rZ.o (by simp [Value.oneCell']) (by unfold maxLen;omega) (by omega) (by have:=nu.o.size;simp;omega) ?c1)
        case c1=>
        intro v' w5 aD hg bN cX;have pF:Hd (w5.ownsRow w.heap.size 5 1 v' (acc ++ [92]).length (vb (acc ++ [92]))):=zh (by simpa [vb] using aD);have iG:Hd (aj w5 g 59 #[.string s,.int .i64 p,.slice A l.length c,.slice R m d,.int .i64 0,.string ⟨#[]⟩,.int .i64 0]):=zh ((qE.o.alloc _).grown hg (fun e=>cD qO.o qE.o (by decide) e.symm));have nr:Hd (ay (fun k=>k=g) w w5):=zh ((nu.o.alloc _).trans (ay.of_grown (X:=fun k=>w.heap.size≤k) hg (fun b hb=>(qO.o.lt b hb).1)) (fun k hk h9=>absurd hk (by omega)));clear aD hg bN cX rZ;have z0:=iG.o.cell 0;have z1:=iG.o.cell 1;simp at z0 z1;have zf:=iG.o.frozen;have zl:=iG.o.lt;have xL:Hd (aj (w5.setCell ⟨g,1,none⟩ (.int .i64 ((p:Int)+2))) g 59 #[.string s,.int .i64 ((p:Int)+2),.slice A l.length c,.slice R m d,.int .i64 0,.string ⟨#[]⟩,.int .i64 0]):=zh (by simpa using iG.o.set_ 1 (.int .i64 ((p:Int)+2)));have wU:Hd (ay (fun k=>k=g) w (w5.setCell ⟨g,1,none⟩ (.int .i64 ((p:Int)+2)))):=zh (nr.o.set_ (p:=⟨g,1,none⟩) (.inr rfl) _);have Aw:Hd ((w5.setCell ⟨g,1,none⟩ (.int .i64 ((p:Int)+2))).ownsRow w.heap.size 5 1 v' (acc ++ [92]).length (vb (acc ++ [92]))):=zh (bk pF.o fun k hk=>Below.heap_setCell w5 ⟨g,1,none⟩ _ k (fun e=>by have h9:=(pF.o.lt k hk).1;have h8:k=g:=e;omega));clear q0 q1 qf;go_wp2_with fail
        go_roundg (s.size+1 - (p+2))
        case measure=>omega
        case rel=>exact ⟨p+2,acc ++ [92],rfl,by omega,by omega,by simp;omega,Aw,wU,by simpa using xL,fH⟩
      have g92:((y.toNat:Int) == 92)=false:=du QF;by_cases QG:y=34
      · subst QG
        (obtain rfl:(34:UInt8)=z:=by unfold oG at hz;simpa using hz);have rZ:Hd (Row (wd.alloc (.cells #[.int .u8 34] 5)) (fun k=>k=wd.heap.size) 1 (.slice (some ⟨wd.heap.size,0,none⟩) 1 1) 1 [.int .u8 34]):=zh ((aj.new wd 5 #[.int .u8 34]).row (S:=fun k=>k=wd.heap.size) (n:=1) (size:=1) rfl (by unfold maxLen;omega) rfl);go_wp2_with (at_builtin;refine au _ rfl _ _ 40 rfl w.heap.size 5 i0 _ 1 1 underlying40 fL ga f_ fZ rfl (by omega) u3 acc.length (vb acc) rfl (own_below qO.o (aG _ _)) (fun k=>k=wd.heap.size) (.slice (some ⟨wd.heap.size,0,none⟩) 1 1) 1 [.int .u8 34] rfl rZ.o (by simp [Value.oneCell']) (by unfold maxLen;omega) (by omega) (by have:=nu.o.size;simp;omega) ?c2)
        case c2=>
        intro v' w5 aD hg bN cX;have pF:Hd (w5.ownsRow w.heap.size 5 1 v' (acc ++ [34]).length (vb (acc ++ [34]))):=zh (by simpa [vb] using aD);have iG:Hd (aj w5 g 59 #[.string s,.int .i64 p,.slice A l.length c,.slice R m d,.int .i64 0,.string ⟨#[]⟩,.int .i64 0]):=zh ((qE.o.alloc _).grown hg (fun e=>cD qO.o qE.o (by decide) e.symm));have nr:Hd (ay (fun k=>k=g) w w5):=zh ((nu.o.alloc _).trans (ay.of_grown (X:=fun k=>w.heap.size≤k) hg (fun b hb=>(qO.o.lt b hb).1)) (fun k hk h9=>absurd hk (by omega)));clear aD hg bN cX rZ;have z0:=iG.o.cell 0;have z1:=iG.o.cell 1;simp at z0 z1;have zf:=iG.o.frozen;have zl:=iG.o.lt;have xL:Hd (aj (w5.setCell ⟨g,1,none⟩ (.int .i64 ((p:Int)+2))) g 59 #[.string s,.int .i64 ((p:Int)+2),.slice A l.length c,.slice R m d,.int .i64 0,.string ⟨#[]⟩,.int .i64 0]):=zh (by simpa using iG.o.set_ 1 (.int .i64 ((p:Int)+2)));have wU:Hd (ay (fun k=>k=g) w (w5.setCell ⟨g,1,none⟩ (.int .i64 ((p:Int)+2)))):=zh (nr.o.set_ (p:=⟨g,1,none⟩) (.inr rfl) _);have Aw:Hd ((w5.setCell ⟨g,1,none⟩ (.int .i64 ((p:Int)+2))).ownsRow w.heap.size 5 1 v' (acc ++ [34]).length (vb (acc ++ [34]))):=zh (bk pF.o fun k hk=>Below.heap_setCell w5 ⟨g,1,none⟩ _ k (fun e=>by have h9:=(pF.o.lt k hk).1;have h8:k=g:=e;omega));clear q0 q1 qf;go_wp2_with fail
        go_roundg (s.size+1 - (p+2))
        case measure=>omega
        case rel=>exact ⟨p+2,acc ++ [34],rfl,by omega,by omega,by simp;omega,Aw,wU,by simpa using xL,fH⟩
      have g34:((y.toNat:Int) == 34)=false:=du QG;by_cases G8:y=110
      · subst G8
        (obtain rfl:(10:UInt8)=z:=by unfold oG at hz;simpa using hz);have rZ:Hd (Row (wd.alloc (.cells #[.int .u8 10] 5)) (fun k=>k=wd.heap.size) 1 (.slice (some ⟨wd.heap.size,0,none⟩) 1 1) 1 [.int .u8 10]):=zh ((aj.new wd 5 #[.int .u8 10]).row (S:=fun k=>k=wd.heap.size) (n:=1) (size:=1) rfl (by unfold maxLen;omega) rfl);go_wp2_with (at_builtin;refine au _ rfl _ _ 40 rfl w.heap.size 5 i0 _ 1 1 underlying40 fL ga f_ fZ rfl (by omega) u3 acc.length (vb acc) rfl (own_below qO.o (aG _ _)) (fun k=>k=wd.heap.size) (.slice (some ⟨wd.heap.size,0,none⟩) 1 1) 1 [.int .u8 10] rfl rZ.o (by simp [Value.oneCell']) (by unfold maxLen;omega) (by omega) (by have:=nu.o.size;simp;omega) ?c3)
        case c3=>
        intro v' w5 aD hg bN cX;have pF:Hd (w5.ownsRow w.heap.size 5 1 v' (acc ++ [10]).length (vb (acc ++ [10]))):=zh (by simpa [vb] using aD);have iG:Hd (aj w5 g 59 #[.string s,.int .i64 p,.slice A l.length c,.slice R m d,.int .i64 0,.string ⟨#[]⟩,.int .i64 0]):=zh ((qE.o.alloc _).grown hg (fun e=>cD qO.o qE.o (by decide) e.symm));have nr:Hd (ay (fun k=>k=g) w w5):=zh ((nu.o.alloc _).trans (ay.of_grown (X:=fun k=>w.heap.size≤k) hg (fun b hb=>(qO.o.lt b hb).1)) (fun k hk h9=>absurd hk (by omega)));clear aD hg bN cX rZ;have z0:=iG.o.cell 0;have z1:=iG.o.cell 1;simp at z0 z1;have zf:=iG.o.frozen;have zl:=iG.o.lt;have xL:Hd (aj (w5.setCell ⟨g,1,none⟩ (.int .i64 ((p:Int)+2))) g 59 #[.string s,.int .i64 ((p:Int)+2),.slice A l.length c,.slice R m d,.int .i64 0,.string ⟨#[]⟩,.int .i64 0]):=zh (by simpa using iG.o.set_ 1 (.int .i64 ((p:Int)+2)));have wU:Hd (ay (fun k=>k=g) w (w5.setCell ⟨g,1,none⟩ (.int .i64 ((p:Int)+2)))):=zh (nr.o.set_ (p:=⟨g,1,none⟩) (.inr rfl) _);have Aw:Hd ((w5.setCell ⟨g,1,none⟩ (.int .i64 ((p:Int)+2))).ownsRow w.heap.size 5 1 v' (acc ++ [10]).length (vb (acc ++ [10]))):=zh (bk pF.o fun k hk=>Below.heap_setCell w5 ⟨g,1,none⟩ _ k (fun e=>by have h9:=(pF.o.lt k hk).1;have h8:k=g:=e;omega));clear q0 q1 qf;go_wp2_with fail
        go_roundg (s.size+1 - (p+2))
        case measure=>omega
        case rel=>exact ⟨p+2,acc ++ [10],rfl,by omega,by omega,by simp;omega,Aw,wU,by simpa using xL,fH⟩
      have Xx:((y.toNat:Int) == 110)=false:=du G8;by_cases JY:y=116
      · subst JY
        (obtain rfl:(9:UInt8)=z:=by unfold oG at hz;simpa using hz);have rZ:Hd (Row (wd.alloc (.cells #[.int .u8 9] 5)) (fun k=>k=wd.heap.size) 1 (.slice (some ⟨wd.heap.size,0,none⟩) 1 1) 1 [.int .u8 9]):=zh ((aj.new wd 5 #[.int .u8 9]).row (S:=fun k=>k=wd.heap.size) (n:=1) (size:=1) rfl (by unfold maxLen;omega) rfl);go_wp2_with (at_builtin;refine au _ rfl _ _ 40 rfl w.heap.size 5 i0 _ 1 1 underlying40 fL ga f_ fZ rfl (by omega) u3 acc.length (vb acc) rfl (own_below qO.o (aG _ _)) (fun k=>k=wd.heap.size) (.slice (some ⟨wd.heap.size,0,none⟩) 1 1) 1 [.int .u8 9] rfl rZ.o (by simp [Value.oneCell']) (by unfold maxLen;omega) (by omega) (by have:=nu.o.size;simp;omega) ?c4)
        case c4=>
        intro v' w5 aD hg bN cX;have pF:Hd (w5.ownsRow w.heap.size 5 1 v' (acc ++ [9]).length (vb (acc ++ [9]))):=zh (by simpa [vb] using aD);have iG:Hd (aj w5 g 59 #[.string s,.int .i64 p,.slice A l.length c,.slice R m d,.int .i64 0,.string ⟨#[]⟩,.int .i64 0]):=zh ((qE.o.alloc _).grown hg (fun e=>cD qO.o qE.o (by decide) e.symm));have nr:Hd (ay (fun k=>k=g) w w5):=zh ((nu.o.alloc _).trans (ay.of_grown (X:=fun k=>w.heap.size≤k) hg (fun b hb=>(qO.o.lt b hb).1)) (fun k hk h9=>absurd hk (by omega)));clear aD hg bN cX rZ;have z0:=iG.o.cell 0;have z1:=iG.o.cell 1;simp at z0 z1;have zf:=iG.o.frozen;have zl:=iG.o.lt;have xL:Hd (aj (w5.setCell ⟨g,1,none⟩ (.int .i64 ((p:Int)+2))) g 59 #[.string s,.int .i64 ((p:Int)+2),.slice A l.length c,.slice R m d,.int .i64 0,.string ⟨#[]⟩,.int .i64 0]):=zh (by simpa using iG.o.set_ 1 (.int .i64 ((p:Int)+2)));have wU:Hd (ay (fun k=>k=g) w (w5.setCell ⟨g,1,none⟩ (.int .i64 ((p:Int)+2)))):=zh (nr.o.set_ (p:=⟨g,1,none⟩) (.inr rfl) _);have Aw:Hd ((w5.setCell ⟨g,1,none⟩ (.int .i64 ((p:Int)+2))).ownsRow w.heap.size 5 1 v' (acc ++ [9]).length (vb (acc ++ [9]))):=zh (bk pF.o fun k hk=>Below.heap_setCell w5 ⟨g,1,none⟩ _ k (fun e=>by have h9:=(pF.o.lt k hk).1;have h8:k=g:=e;omega));clear q0 q1 qf;go_wp2_with fail
        go_roundg (s.size+1 - (p+2))
        case measure=>omega
        case rel=>exact ⟨p+2,acc ++ [9],rfl,by omega,by omega,by simp;omega,Aw,wU,by simpa using xL,fH⟩
      exfalso
      unfold oG at hz;simp [QF,QG,G8,JY] at hz
    have Zl:((x.toNat:Int) == 92)=false:=du C8
    have fH:Hd (bP at_ (s.data.toList.drop (p+1)) (p+1) (acc ++ [x]) = .ok (q,tx)):=zh (by
      have h1:=HT.o;unfold bP at h1;rw [if_neg oa,if_neg sc,if_neg C8] at h1
      exact h1)
    clear HT;have rZ:Hd (Row (wb.alloc (.cells #[.int .u8 x.toNat] 5)) (fun k=>k=wb.heap.size) 1 (.slice (some ⟨wb.heap.size,0,none⟩) 1 1) 1 [.int .u8 x.toNat]):=zh ((aj.new wb 5 #[.int .u8 x.toNat]).row (S:=fun k=>k=wb.heap.size) (n:=1) (size:=1) rfl (by unfold maxLen;omega) rfl);go_wp2_with (at_builtin;refine au _ rfl _ _ 40 rfl w.heap.size 5 i0 _ 1 1 underlying40 fL ga f_ fZ rfl (by omega) u3 acc.length (vb acc) rfl (own_below nV.o (aG _ _)) (fun k=>k=wb.heap.size) (.slice (some ⟨wb.heap.size,0,none⟩) 1 1) 1 [.int .u8 x.toNat] rfl rZ.o (by simp [Value.oneCell']) (by unfold maxLen;omega) (by omega) (by have:=wI.o.size;simp;omega) ?c5)
    case c5=>
    intro v' w5 aD hg bN cX;have pF:Hd (w5.ownsRow w.heap.size 5 1 v' (acc ++ [x]).length (vb (acc ++ [x]))):=zh (by simpa [vb] using aD);have iG:Hd (aj w5 g 59 #[.string s,.int .i64 p,.slice A l.length c,.slice R m d,.int .i64 0,.string ⟨#[]⟩,.int .i64 0]):=zh ((lT.o.alloc _).grown hg (fun e=>cD nV.o lT.o (by decide) e.symm));have nr:Hd (ay (fun k=>k=g) w w5):=zh ((wI.o.alloc _).trans (ay.of_grown (X:=fun k=>w.heap.size≤k) hg (fun b hb=>(nV.o.lt b hb).1)) (fun k hk h9=>absurd hk (by omega)));clear aD hg bN cX rZ;have z0:=iG.o.cell 0;have z1:=iG.o.cell 1;simp at z0 z1;have zf:=iG.o.frozen;have zl:=iG.o.lt;have xL:Hd (aj (w5.setCell ⟨g,1,none⟩ (.int .i64 ((p:Int)+1))) g 59 #[.string s,.int .i64 ((p:Int)+1),.slice A l.length c,.slice R m d,.int .i64 0,.string ⟨#[]⟩,.int .i64 0]):=zh (by simpa using iG.o.set_ 1 (.int .i64 ((p:Int)+1)));have wU:Hd (ay (fun k=>k=g) w (w5.setCell ⟨g,1,none⟩ (.int .i64 ((p:Int)+1)))):=zh (nr.o.set_ (p:=⟨g,1,none⟩) (.inr rfl) _);have Aw:Hd ((w5.setCell ⟨g,1,none⟩ (.int .i64 ((p:Int)+1))).ownsRow w.heap.size 5 1 v' (acc ++ [x]).length (vb (acc ++ [x]))):=zh (bk pF.o fun k hk=>Below.heap_setCell w5 ⟨g,1,none⟩ _ k (fun e=>by have h9:=(pF.o.lt k hk).1;have h8:k=g:=e;omega));clear q0 q1 qf;go_wp2_with fail
    go_roundg (s.size+1 - (p+1))
    case measure=>omega
    case rel=>exact ⟨p+1,acc ++ [x],rfl,by omega,by omega,by simp;omega,Aw,wU,by simpa using xL,fH⟩
end
theorem I8 {l:List UInt8}:0≤Lib.indexByte l 10↔l.contains 10=true:=by
  constructor
  · intro h
    obtain ⟨o,ho⟩:∃ o:Nat,Lib.indexByte l 10=o:=⟨(Lib.indexByte l 10).toNat,by omega⟩;exact List.contains_iff_mem.2 (List.mem_of_getElem? (Lib.indexByte_some ho).1)
  · intro h
    obtain ⟨k,hk⟩:=List.getElem?_of_mem (List.contains_iff_mem.1 h);have h1:=Lib.indexByte_ge l 10;rcases Int.lt_or_le (Lib.indexByte l 10) 0 with h2 | h2
    · exact absurd hk (Lib.indexByte_none (by omega) k)
    · exact h2
def xX (s:ByteArray) (a p:Nat):Bool:=((s.data.toList.drop a).take (p - a)).contains 10
theorem lD (s:ByteArray):s.data.toList.length=s.size:=by rw [Array.length_toList];rfl
theorem jl {s:ByteArray} {a k:Nat} (hk:a+k<s.size):(s.data.toList.drop a)[k]? = some s[a+k]:=by
  rw [List.getElem?_eq_getElem (dg hk)];exact congrArg some (JZ hk)
theorem j9 {s:ByteArray} {a p:Nat} (QB:a≤p) (hp:p<s.size):xX s a (p+1)=(xX s a p || s[p] == 10):=by
  obtain ⟨k,rfl⟩:∃ k,p=a+k:=⟨p - a,by omega⟩;unfold xX;(have e:a+k+1 - a=(a+k - a)+1:=by omega);rw [e,List.take_add_one,Nat.add_sub_cancel_left,jl hp,List.contains_append]
  have h9:([s[a+k]]:List UInt8).contains 10=(s[a+k] == 10):=by
    simp;rw [Bool.beq_comm];rfl
  show (_ || ([s[a+k]]:List UInt8).contains 10)=_
  rw [h9]
theorem FG {s:ByteArray} {a:Nat}:xX s a a=false:=by
  unfold xX;rw [Nat.sub_self,List.take_zero];rfl
theorem lj {s:ByteArray} {p:Nat} {x y:UInt8} (hp:p≤s.size):qv s p ⟨#[x,y]⟩=true↔∃ h:p+1<s.size,s[p]=x∧s[p+1]=y:=by
  rw [nj hp];have h1:(⟨#[x,y]⟩:ByteArray).size=2:=rfl;have h2:(⟨#[x,y]⟩:ByteArray).data.toList=[x,y]:=rfl;rw [h1,h2,List.length_drop,lD]
  constructor
  · rintro ⟨h3,h4⟩
    refine ⟨by omega,?_,?_⟩
    · have h5:=congrArg (fun l=>l[0]?) h4
      rw [List.getElem?_take_of_lt (by omega),jl (k:=0) (by omega)] at h5
      simpa using h5
    · have h5:=congrArg (fun l=>l[1]?) h4
      rw [List.getElem?_take_of_lt (by omega),jl (k:=1) (by omega)] at h5
      simpa using h5
  · rintro ⟨h3,h4,h5⟩
    refine ⟨by omega,?_⟩;rw [List.drop_eq_getElem_cons (by rw [lD];omega),List.drop_eq_getElem_cons (by rw [lD];omega),Array.getElem_toList,Array.getElem_toList];have h6:s.data[p]'(by have h9:s.data.size=s.size:=rfl;omega)=x:=h4;have h7:s.data[p+1]'(by have h9:s.data.size=s.size:=rfl;omega)=y:=h5;rw [h6,h7];rfl
theorem EX {s:ByteArray} {a k:Nat} (h:a+k≤s.size):qv s (a+k) ⟨#[42,47]⟩=Lib.occAt (s.data.toList.drop a) [42,47] k:=by
  rw [Bool.eq_iff_iff,nj h];unfold Lib.occAt;rw [List.drop_drop,List.isPrefixOf_iff_prefix,List.prefix_iff_eq_take];have h1:(⟨#[42,47]⟩:ByteArray).size=2:=rfl;have h2:(⟨#[42,47]⟩:ByteArray).data.toList=[42,47]:=rfl;rw [h1,h2]
  constructor
  · rintro ⟨-,e⟩
    exact e.symm
  · intro e
    refine ⟨?_,e.symm⟩;have h3:=congrArg List.length e;rw [List.length_take] at h3;have h4:([42,47]:List UInt8).length=2:=rfl;omega
theorem Bo {s:ByteArray} {p n:Nat} (hp:p≤s.size) (hr:dK (s.data.toList.drop p)=some n) (h:(s.data.toList.drop p).getD 1 0≠42) :
    p+n≤s.size∧(∀ P,p≤P→P<p+n→(h:P<s.size)→s[P]≠10)∧(∀ h:p+n<s.size,s[p+n]=10)∧¬ 0≤Lib.indexByte ((s.data.toList.drop p).take n) 10:=by
  unfold dK at hr;rw [if_neg h] at hr;have hr:=Option.some.inj hr;(have hz:(s.data.toList.drop p).length=s.size - p:=by rw [List.length_drop,lD]);have Eb:=Lib.indexByte_ge (s.data.toList.drop p) 10
  have key:p+n≤s.size∧(∀ P,p≤P→P<p+n→(h:P<s.size)→s[P]≠10)∧(∀ h:p+n<s.size,s[p+n]=10):=by
    by_cases h0:Lib.indexByte (s.data.toList.drop p) 10<0
    · rw [if_pos h0,hz] at hr
      refine ⟨by omega,fun P h1 h2 h3 e=>?_,fun h1=>by omega⟩;obtain ⟨k,rfl⟩:∃ k,P=p+k:=⟨P - p,by omega⟩;exact Lib.indexByte_none (by omega:Lib.indexByte (s.data.toList.drop p) 10 = -1) k (by rw [jl h3,e])
    · rw [if_neg h0] at hr
      obtain ⟨h1,h2⟩:=Lib.indexByte_some (l:=s.data.toList.drop p) (c:=10) (o:=n) (by omega);have h3:=(List.getElem?_eq_some_iff.1 h1).1;rw [hz] at h3;refine ⟨by omega,fun P h4 h5 h6 e=>?_,fun h4=>?_⟩
      · obtain ⟨k,rfl⟩:∃ k,P=p+k:=⟨P - p,by omega⟩
        exact h2 k (by omega) (by rw [jl h6,e])
      · rw [jl h4] at h1
        exact Option.some.inj h1
  refine ⟨key.1,key.2.1,key.2.2,fun h0=>?_⟩;have h1:=List.contains_iff_mem.1 (I8.1 h0);obtain ⟨k,hk⟩:=List.getElem?_of_mem h1
  have hkn:k<n:=by
    rcases Nat.lt_or_ge k n with h2 | h2
    · exact h2
    · rw [List.getElem?_take_eq_none h2] at hk;cases hk
  rw [List.getElem?_take_of_lt hkn,jl (by have:=key.1;omega)] at hk;exact key.2.1 (p+k) (by omega) (by omega) (by have:=key.1;omega) (Option.some.inj hk)
theorem LF {s:ByteArray} {p n:Nat} (hp:p+2≤s.size) (hr:dK (s.data.toList.drop p)=some n) (h:(s.data.toList.drop p).getD 1 0=42) :
    4≤n∧p+n≤s.size∧(∀ P,p+2≤P→P+2<p+n→qv s P ⟨#[42,47]⟩=false)∧qv s (p+n - 2) ⟨#[42,47]⟩=true:=by
  unfold dK at hr;rw [if_pos h,List.drop_drop] at hr;(have hz:(s.data.toList.drop (p+2)).length=s.size - (p+2):=by rw [List.length_drop,lD]);split at hr
  · cases hr
  rename_i h0
  have hr:=Option.some.inj hr;rcases Lib.index_spec (s.data.toList.drop (p+2)) [42,47] with ⟨h1,-⟩ | ⟨i,h1,h2,h3,h4⟩
  · omega
  · rw [h1] at hr
    (have hi:(i:Int).toNat=i:=by omega);rw [hi] at hr;subst hr;rw [hz] at h2;have h5:=EX (s:=s) (a:=p+2) (k:=i) (by omega);rw [h3] at h5;obtain ⟨h6,-,-⟩:=(lj (by omega)).1 h5;refine ⟨by omega,by omega,fun P h7 h8=>?_,?_⟩
    · obtain ⟨k,rfl⟩:∃ k,P=p+2+k:=⟨P - (p+2),by omega⟩
      rw [EX (by omega)];exact h4 k (by omega)
    · have e:p+(i+4) - 2=p+2+i:=by omega
      rw [e];exact h5
set_option maxRecDepth 100000
set_option maxHeartbeats 8000000
section
variable {w w':World} {base g at_:Nat} {s:ByteArray} {l:List Tk} {A:Option Addr} {c:Nat} {R:Option Addr} {m d:Nat} {xs:List Value}
theorem km.below (hm:km base w g s at_ l A c R m d xs) (hb:Below w.heap.size w w'):km base w' g s at_ l A c R m d xs:=⟨hm.blk.below hb hm.blk.lt,own_below hm.tok hb,own_below hm.rem hb,hm.mle,hm.lo⟩
theorem km.to_ {p:Nat} (hm:km base w g s at_ l A c R m d xs) (hp:at_≤p):km base (w.setCell ⟨g,1,none⟩ (.int .i64 p)) g s p l A c R m d xs:=
  hm.but ((ay.refl (fun k=>k=g) w).set_ (p:=⟨g,1,none⟩) (.inr rfl) _) (by simpa using hm.blk.set_ 1 (.int .i64 p)) hp
theorem km.cells (hm:km base w g s at_ l A c R m d xs):w.cell? ⟨g,0,none⟩=some (.string s)∧w.cell? ⟨g,1,none⟩=some (.int .i64 at_)∧(∀ i,w.frozen? ⟨g,i,none⟩=false)∧g<w.heap.size∧base≤g:=ey.cells ⟨A,c,R,m,d,xs,hm⟩
theorem km.cell3 (hm:km base w g s at_ l A c R m d xs):w.cell? ⟨g,3,none⟩=some (.slice R m d):=by
  have q3:=hm.blk.cell 3;simp at q3;exact q3
theorem km.t (hm:km base w g s at_ l A c R m d xs):ey base w g s at_ l:=⟨A,c,R,m,d,xs,hm⟩
theorem km.growR {ys:List Value} {W w3:World} {v':Value} (h:km base w g s at_ l A c R m d xs) (WL:m+1≤at_) (hW:Below w.heap.size w W) (aD:w3.ownsRow base 90 2 v' (m+1) (xs ++ ys))
    (hg:W.grownBy w3 (Value.slice R m d).ownBlock):∃ B d',v' = .slice B (m+1) d'∧ey base (w3.setCell ⟨g,3,none⟩ (.slice B (m+1) d')) g s at_ l∧Below base w (w3.setCell ⟨g,3,none⟩ (.slice B (m+1) d'))∧aj w3 g 59 #[.string s,.int .i64 at_,.slice A l.length c,.slice R m d,.int .i64 0,.string ⟨#[]⟩,.int .i64 0]:=by
  obtain ⟨B,c',rfl⟩:=cA aD;have sE:=h.blk.lt;have hz:=hW.size;have eF:aj w3 g 59 #[.string s,.int .i64 at_,.slice A l.length c,.slice R m d,.int .i64 0,.string ⟨#[]⟩,.int .i64 0]:=(h.blk.below hW sE).grown hg (fun e=>cD h.rem h.blk (by decide) e.symm)
  have R9:w3.ownsRow base 36 4 (.slice A l.length c) l.length (eg l):=(own_below h.tok hW).kept hg (by
    cases hA:(Value.slice A l.length c).ownBlock with
    | none=>exact .inl rfl
    | some k=>exact .inr fun e=>zg h.tok h.rem (by decide) hA e.symm)
  have OL:Below base w w3:=(hW.mono (Nat.le_trans h.lo (Nat.le_of_lt sE))).trans ⟨hg.os,hg.tape,hg.output,hg.size,fun b hb=>hg.block b (by have:=h.lo;omega) (fun e=>by
    have:=(h.rem.lt b e.symm).1
    omega)⟩
  refine ⟨B,c',rfl,⟨A,c,B,m+1,c',xs ++ ys,?_,?_,?_,WL,h.lo⟩,OL.setCell h.lo _,eF⟩
  · simpa using eF.set_ 3 (.slice B (m+1) c')
  · exact bk R9 fun k hk=>Below.heap_setCell w3 ⟨g,3,none⟩ _ k (fun e=>cD R9 eF (by decide) (by rw [hk,e]))
  · exact bk aD fun k hk=>Below.heap_setCell w3 ⟨g,3,none⟩ _ k (fun e=>cD aD eF (by decide) (by rw [hk,e]))
end
section
variable {w w':World} {base g at_:Nat} {s:ByteArray} {l:List Tk}
theorem tq {p n q:Nat} (hq:p+n=q) (h:ey base w g s p l) (hl:l.length≤100000) (iw:base≤w.heap.size) (hs:s.size≤65536) (hp:p+2≤s.size) (hA:qv s p ⟨#[47,47]⟩=true) (hr:dK (s.data.toList.drop p)=some n) :
    Calls prog 47 #[.pointer (some ⟨g,0,none⟩)] w fun e w'=>e = .returned (.tuple #[])∧ey base w' g s q (if 0≤Lib.indexByte ((s.data.toList.drop p).take n) 10 then bB p l else l)∧Below base w w':=by
  have h1:=((lj (by omega)).1 hA)
  have Ej:(s.data.toList.drop p).getD 1 0≠42:=by
    obtain ⟨h2,-,h3⟩:=h1;rw [List.getD_eq_getElem?_getD,jl h2,h3]
    decide
  have K8:2≤n:=by
    obtain ⟨h2,h4,h3⟩:=h1;have h5:=(Bo (by omega) hr Ej).2.2.1;rcases Nat.lt_or_ge n 2 with h6 | h6
    · have h7:n=0∨n=1:=by omega
      rcases h7 with rfl | rfl
      · have h8:=h5 (by omega);simp only [Nat.add_zero] at h8;rw [h4] at h8;cases h8
      · have h8:=h5 (by omega);rw [h3] at h8;cases h8
    · exact h6
  obtain ⟨cq,x_,GX,UX⟩:=Bo (by omega) hr Ej;rw [if_neg UX];rw [hq] at cq x_;simp only [hq] at GX;(have FM:p+2≤q:=by omega);obtain ⟨A,cc,R,m,d,xs,hm⟩:=h;have H:=zh hm;have T':=zh x_;have HEN:=zh GX;have HA:=zh hA;have gM:=zh iw;have Ua:=zh hm.mle;(have uE:(s.size:Int)≤65536:=by omega);(have D5:(p:Int)≤(s.size:Int):=by omega);(have Nj:(q:Int)≤(s.size:Int):=by omega);obtain ⟨q0,q1,qf,ql,qb⟩:=hm.cells;clear hm x_ UX hr Ej h1 hA K8;clear GX;go_enter func47,ntmps47;go_wp2_with fail;refine (eU H.o.t (by omega) (by omega) (by decide)).mono ?_;rintro e w1 ⟨rfl,cB⟩;rw [HA.o];have qN:Hd (km base w1 g s p l A cc R m d xs):=zh (H.o.below cB);have cT:Hd (Below base w w1):=zh (cB.mono iw);clear cB q0 q1 qf ql qb;obtain ⟨q0,q1,qf,ql,qb⟩:=qN.o.cells;go_wp2_with fail
  (try go_step3)
  go_wp2_with fail
  go_loopg [] (q - p) (fun mm wr=>∃ P:Nat,mm=q - P∧p≤P∧P≤q∧Hd (km base wr g s P l A cc R m d xs)∧Hd (Below base w wr))
  case atStart=>exact ⟨p,rfl,Nat.le_refl _,by omega,qN,cT⟩
  case round=>
    obtain ⟨P,rfl,GT,QD,HS,HB⟩:=hrel;clear q0 q1 qf ql qb qN cT;obtain ⟨q0,q1,qf,ql,qb⟩:=HS.o.cells;(have La:(P:Int)≤65536:=by omega);by_cases fs:P<s.size
    · obtain ⟨c,hc⟩:∃ c,s[P]=c:=⟨_,rfl⟩
      have HC:=zh hc;(have Ie:(P:Int)<(s.size:Int):=by omega);by_cases JJ:P<q
      · have zH:c≠10:=fun e=>T'.o P GT JJ fs (HC.o.trans e)
        have f10:((c.toNat:Int) == 10)=false:=du zH;go_wp2_with fail;refine wp_region_held_drew (S:=(fun w'=>w'.cell? ⟨g,0,none⟩=some (.string s)∧w'.cell? ⟨g,1,none⟩=some (.int .i64 P))) (by kernel_rfl) (by exact ⟨q0,q1⟩) (fun ac=>?_);refine bw ?_ ac;clear ac;rintro wb hb ac;refine aK 22 (by kernel_rfl) (fun aF=>?_);have fh:Hd (km base wb g s P l A cc R m d xs):=zh (HS.o.below hb);have aE:Hd (Below base w wb):=zh (HB.o.trans (hb.mono (by have h9:=HB.o.size;have h8:=gM.o;omega)));clear hb
        skip
        (iterate 22 (refine ao (v:=?_) aF (by decide) (fun _ _ _ h=>h) (Or.inl ⟨by rfl,?_⟩) (by assumption) ?_;rotate_left;(intro W aH;(try dsimp only [ze] at aH);go_simp;first | done | rfl);try simp only [Act.put,cr,cj,ch,UC,UB,VB]));refine bz ?_;clear aF;obtain ⟨z0,z1,zf,zl,zb⟩:=fh.o.cells;clear q0 q1 qf ql qb ac;go_wp2_with fail;have p8:Hd (km base (wb.setCell ⟨g,1,none⟩ (.int .i64 ((P:Int)+1))) g s (P+1) l A cc R m d xs):=zh (by simpa using fh.o.to_ (p:=P+1) (by omega));have be:Hd (Below base w (wb.setCell ⟨g,1,none⟩ (.int .i64 ((P:Int)+1)))):=zh (aE.o.setCell zb _)
        go_roundg (q - (P+1))
        case measure=>omega
        case rel=>exact ⟨P+1,rfl,by omega,by omega,p8,be⟩
      · obtain rfl:P=q:=by omega
        obtain rfl:c=10:=HC.o.symm.trans (HEN.o fs);go_wp2_with fail;refine wp_region_held_drew (S:=(fun w'=>w'.cell? ⟨g,0,none⟩=some (.string s)∧w'.cell? ⟨g,1,none⟩=some (.int .i64 P))) (by kernel_rfl) (by exact ⟨q0,q1⟩) (fun ac=>?_);refine bw ?_ ac;clear ac;rintro wb hb ac;refine aK 22 (by kernel_rfl) (fun aF=>?_);have fh:Hd (km base wb g s P l A cc R m d xs):=zh (HS.o.below hb);have aE:Hd (Below base w wb):=zh (HB.o.trans (hb.mono (by have h9:=HB.o.size;have h8:=gM.o;omega)));clear hb
        skip
        (iterate 22 (refine ao (v:=?_) aF (by decide) (fun _ _ _ h=>h) (Or.inl ⟨by rfl,?_⟩) (by assumption) ?_;rotate_left;(intro W aH;(try dsimp only [ze] at aH);go_simp;first | done | rfl);try simp only [Act.put,cr,cj,ch,UC,UB,VB]));refine bz ?_;clear aF;clear q0 q1 qf ql qb ac;obtain ⟨i0,fL,ga,f_,fZ⟩:=info_parts kQ;obtain ⟨z0,z1,zf,zl,zb⟩:=fh.o.cells;have z3:=fh.o.cell3;have Rs:=Ua.o;go_wp2_with fail
        go_region_law
          (first
            | (refine bE _ rfl _ _ 57 rfl base 90 i0 _ 2 16 underlying57 fL ga f_ fZ rfl (by omega) (.slice R m d) m xs (by simp [Act.eval]) (own_below fh.o.rem (aG _ _).drew) (fun b=>b=wb.heap.size) (.slice (some ⟨wb.heap.size,0,none⟩) 1 1) 1 [.int .i64 p,.int .i64 P] (by simp [Act.eval]) (((aj.new wb _ _).row (n:=1) rfl (by unfold maxLen;omega) rfl)) (by simp [Value.oneCell']) (by unfold maxLen;omega) (by omega) (by have h9:=fh.o.lo;simp;omega) ?_
               intro v' w3 aD hg bN cX;obtain ⟨B,c',rfl,hS,mB,eF⟩:=fh.o.growR (by omega) (aG _ _).drew aD hg;have Oa:=zh hS;have Qg:=zh (aE.o.trans mB);have s3:=eF.cell 3;simp at s3;have sf:=eF.frozen;have sl:=eF.lt
               clear aD hg bN cX hS mB eF))
        all_goals
          go_wp2_with fail;exact bodyPost_ret (v:=.tuple #[]) (by first | rfl | simp [results,results47,go_sem]) rfl ⟨rfl,Oa.o,Qg.o⟩
    · obtain rfl:P=q:=by omega
      (have Ie:decide ((P:Int)<(s.size:Int))=false:=by simp;omega);go_wp2_with fail;refine wp_region_held_drew (S:=(fun w'=>w'.cell? ⟨g,0,none⟩=some (.string s)∧w'.cell? ⟨g,1,none⟩=some (.int .i64 P))) (by kernel_rfl) (by exact ⟨q0,q1⟩) (fun ac=>?_);refine bw ?_ ac;clear ac;rintro wb hb ac;refine aK 22 (by kernel_rfl) (fun aF=>?_);have fh:Hd (km base wb g s P l A cc R m d xs):=zh (HS.o.below hb);have aE:Hd (Below base w wb):=zh (HB.o.trans (hb.mono (by have h9:=HB.o.size;have h8:=gM.o;omega)));clear hb
      skip
      (iterate 11 (refine ao (v:=?_) aF (by decide) (fun _ _ _ h=>h) (Or.inl ⟨by rfl,?_⟩) (by assumption) ?_;rotate_left;(intro W aH;(try dsimp only [ze] at aH);go_simp;first | done | rfl);try simp only [Act.put,cr,cj,ch,UC,UB,VB]));iterate 10 (refine ao (v:=undef) aF (by decide) (fun _ _ _ h=>h) (Or.inr ⟨by rfl,rfl⟩) (by assumption) ?_;try simp only [Act.put,cr,cj,ch,UC,UB,VB])
      (refine ao (v:=?_) aF (by decide) (fun _ _ _ h=>h) (Or.inl ⟨by rfl,?_⟩) (by assumption) ?_;rotate_left;(intro W aH;(try dsimp only [ze] at aH);go_simp;first | done | rfl);try simp only [Act.put,cr,cj,ch,UC,UB,VB])
      refine bz ?_;clear aF;clear q0 q1 qf ql qb ac;obtain ⟨i0,fL,ga,f_,fZ⟩:=info_parts kQ;obtain ⟨z0,z1,zf,zl,zb⟩:=fh.o.cells;have z3:=fh.o.cell3;have Rs:=Ua.o;go_wp2_with fail
      go_region_law
        (first
          | (refine bE _ rfl _ _ 57 rfl base 90 i0 _ 2 16 underlying57 fL ga f_ fZ rfl (by omega) (.slice R m d) m xs (by simp [Act.eval]) (own_below fh.o.rem (aG _ _).drew) (fun b=>b=wb.heap.size) (.slice (some ⟨wb.heap.size,0,none⟩) 1 1) 1 [.int .i64 p,.int .i64 P] (by simp [Act.eval]) (((aj.new wb _ _).row (n:=1) rfl (by unfold maxLen;omega) rfl)) (by simp [Value.oneCell']) (by unfold maxLen;omega) (by omega) (by have h9:=fh.o.lo;simp;omega) ?_
             intro v' w3 aD hg bN cX;obtain ⟨B,c',rfl,hS,mB,eF⟩:=fh.o.growR (by omega) (aG _ _).drew aD hg;have Oa:=zh hS;have Qg:=zh (aE.o.trans mB);have s3:=eF.cell 3;simp at s3;have sf:=eF.frozen;have sl:=eF.lt
             clear aD hg bN cX hS mB eF))
      all_goals
        go_wp2_with fail;exact bodyPost_ret (v:=.tuple #[]) (by first | rfl | simp [results,results47,go_sem]) rfl ⟨rfl,Oa.o,Qg.o⟩
theorem tn {p n q:Nat} (hq:p+n=q) (h:ey base w g s p l) (hl:l.length≤100000) (iw:base≤w.heap.size) (hs:s.size≤65536) (hA:qv s p ⟨#[47,42]⟩=true) (hp:p≤s.size) (hr:dK (s.data.toList.drop p)=some n) :
    Calls prog 47 #[.pointer (some ⟨g,0,none⟩)] w fun e w'=>e = .returned (.tuple #[])∧ey base w' g s q (if 0≤Lib.indexByte ((s.data.toList.drop p).take n) 10 then bB p l else l)∧Below base w w':=by
  obtain ⟨r_,b0,b1⟩:=(lj hp).1 hA
  have Ej:(s.data.toList.drop p).getD 1 0=42:=by
    rw [List.getD_eq_getElem?_getD,jl r_,b1];rfl
  obtain ⟨OS,cq,x_,Jo⟩:=LF (by omega) hr Ej
  have FS:qv s p ⟨#[47,47]⟩=false:=by
    rw [Bool.eq_false_iff];intro h;obtain ⟨h3,-,h2⟩:=(lj hp).1 h;rw [b1] at h2;cases h2
  obtain ⟨i,hi⟩:∃ i,i=q - 2:=⟨_,rfl⟩;(have sC:i+2=q:=by omega);(have WH:p+2≤i:=by omega);rw [hq] at cq x_ Jo;rw [← hi] at Jo;obtain ⟨wN,e0,e1⟩:=(lj (by omega)).1 Jo
  have Ju:xX s p (p+2)=false:=by
    rw [j9 (by omega) r_,j9 (by omega) (by omega),FG,b1,b0];rfl
  have Rp:xX s p q=xX s p i:=by
    rw [← sC,j9 (by omega) wN,j9 (by omega) (by omega),e1,e0];simp
  have Ro:(if 0≤Lib.indexByte ((s.data.toList.drop p).take n) 10 then bB p l else l)=(if xX s p i=true then bB p l else l):=by
    rw [← Rp]
    have hh:0≤Lib.indexByte ((s.data.toList.drop p).take n) 10↔xX s p q=true:=by
      rw [I8];unfold xX;rw [← hq,Nat.add_sub_cancel_left]
    by_cases h9:xX s p q=true
    · rw [if_pos h9,if_pos (hh.2 h9)]
    · rw [if_neg h9,if_neg (fun h=>h9 (hh.1 h))]
  rw [Ro];obtain ⟨L9,Xo⟩:∃ L9,(if xX s p i=true then bB p l else l)=L9:=⟨_,rfl⟩;rw [Xo];have Od:=zh Xo;clear Xo;obtain ⟨A,cc,R,m,d,xs,hm⟩:=h;have H:=zh hm;have T':Hd (∀ P,p+2≤P→P<i→qv s P ⟨#[42,47]⟩=false):=zh fun P h1 h2=>x_ P h1 (by omega);have X5:=zh Jo;have HA:=zh FS;have gM:=zh iw;have X_:=zh Ju;have Ua:=zh hm.mle;(have uE:(s.size:Int)≤65536:=by omega);(have D5:(p:Int)+2≤(s.size:Int):=by omega);(have Nj:(q:Int)≤(s.size:Int):=by omega);(have hiqi:(i:Int)+2=(q:Int):=by omega);(have his:i<s.size:=by omega);obtain ⟨q0,q1,qf,ql,qb⟩:=hm.cells;clear hm x_ Jo hr Ej hA FS OS Ju Rp Ro hi e0 e1 b0 b1 hq;go_enter func47,ntmps47;go_wp2_with fail;refine (eU H.o.t hp (by omega) (by decide)).mono ?_;rintro e w1 ⟨rfl,cB⟩;rw [HA.o];have Qb:Hd (km base w1 g s p l A cc R m d xs):=zh (H.o.below cB);have AP:Hd (Below base w w1):=zh (cB.mono iw);clear cB q0 q1 qf ql qb;obtain ⟨q0,q1,qf,ql,qb⟩:=Qb.o.cells;have qN:Hd (km base (w1.setCell ⟨g,1,none⟩ (.int .i64 ((p:Int)+2))) g s (p+2) l A cc R m d xs):=zh (by simpa using Qb.o.to_ (p:=p+2) (by omega));have cT:Hd (Below base w (w1.setCell ⟨g,1,none⟩ (.int .i64 ((p:Int)+2)))):=zh (AP.o.setCell qb _);go_wp2_with fail
  (try go_step3)
  go_wp2_with fail
  go_loopg [3] (i - p) (fun mm VT wr=>∃ P:Nat,mm=i+2 - P∧p+2≤P∧P≤i∧Hd (VT = .bool (xX s p P))∧Hd (km base wr g s P l A cc R m d xs)∧Hd (Below base w wr))
  case atStart=>exact ⟨p+2,by omega,Nat.le_refl _,by omega,zh (by rw [X_.o]),qN,cT⟩
  case round=>
    obtain ⟨P,rfl,GT,QD,HV,HS,HB⟩:=hrel;clear q0 q1 qf ql qb qN cT Qb AP;obtain ⟨q0,q1,qf,ql,qb⟩:=HS.o.cells;(have La:(P:Int)≤65536:=by omega);(have fs:P<s.size:=by omega);(have Ie:(P:Int)<(s.size:Int):=by omega);obtain ⟨fl,L4⟩:∃ fl,xX s p P=fl:=⟨_,rfl⟩;rw [L4] at HV;obtain rfl:=HV.o;have Ul:=zh L4;clear L4 HV;by_cases JJ:P<i
    · have cX:=T'.o P GT JJ
      go_wp2_with fail;refine wp_region_held_drew (S:=(fun w'=>w'.cell? ⟨g,0,none⟩=some (.string s)∧w'.cell? ⟨g,1,none⟩=some (.int .i64 P))) (by kernel_rfl) (by exact ⟨q0,q1⟩) (fun ac=>?_);refine bw ?_ ac;clear ac;rintro wb hb ac;refine aK 15 (by kernel_rfl) (fun aF=>?_);have fh:Hd (km base wb g s P l A cc R m d xs):=zh (HS.o.below hb);have aE:Hd (Below base w wb):=zh (HB.o.trans (hb.mono (by have h9:=HB.o.size;have h8:=gM.o;omega)));clear hb
      skip
      (iterate 12 (refine ao (v:=?_) aF (by decide) (fun _ _ _ h=>h) (Or.inl ⟨by rfl,?_⟩) (by assumption) ?_;rotate_left;(intro W aH;(try dsimp only [ze] at aH);go_simp;first | done | rfl);try simp only [Act.put,cr,cj,ch,UC,UB,VB]));refine fa (by kernel_rfl) (fun K hK=>?_);go_simp
      go_at_call 46
      refine (eU fh.o.t (by omega) (by omega) (by decide)).mono ?_;rintro e w4 ⟨rfl,dB⟩;rw [cX];have iW:Hd (km base w4 g s P l A cc R m d xs):=zh (fh.o.below dB);have bu:Hd (Below base w w4):=zh (aE.o.trans (dB.mono (by have h9:=aE.o.size;have h8:=gM.o;omega)));clear dB;obtain ⟨z0,z1,zf,zl,zb⟩:=iW.o.cells;refine hK.out _ _ ⟨z0,z1⟩ (fun ac=>?_);clear hK K;(try simp only [Act.put,cr,cj,ch,UC,UB,VB]);(iterate 2 (refine ao (v:=?_) aF (by decide) (fun _ _ _ h=>h) (Or.inl ⟨by rfl,?_⟩) (by assumption) ?_;rotate_left;(intro W aH;(try dsimp only [ze] at aH);go_simp;first | done | rfl);try simp only [Act.put,cr,cj,ch,UC,UB,VB]));refine bz ?_;clear aF;clear q0 q1 qf ql qb ac;obtain ⟨c,hc⟩:∃ c,s[P]=c:=⟨_,rfl⟩;have HC:=zh hc;have GK:=bu.o.size;(have Js:xX s p (P+1)=(fl || c == 10):=by rw [j9 (by omega) fs,Ul.o,HC.o]);have uw:=zh Js;clear Js;cases fl with
      | true=>
        go_wp2_with fail;refine wp_region_held_drew (S:=(fun w'=>w'.cell? ⟨g,0,none⟩=some (.string s)∧w'.cell? ⟨g,1,none⟩=some (.int .i64 P))) (by kernel_rfl) (by exact ⟨z0,z1⟩) (fun ac=>?_);refine bw ?_ ac;clear ac;rintro wc hb ac;refine aK 14 (by kernel_rfl) (fun aF=>?_);have kk:Hd (km base wc g s P l A cc R m d xs):=zh (iW.o.below hb);have aR:Hd (Below base w wc):=zh (bu.o.trans (hb.mono (by have h8:=gM.o;omega)));clear hb
        skip
        (iterate 2 (refine ao (v:=?_) aF (by decide) (fun _ _ _ h=>h) (Or.inl ⟨by rfl,?_⟩) (by assumption) ?_;rotate_left;(intro W aH;(try dsimp only [ze] at aH);go_simp;first | done | rfl);try simp only [Act.put,cr,cj,ch,UC,UB,VB]));(iterate 10 (refine ao (v:=undef) aF (by decide) (fun _ _ _ h=>h) (Or.inr ⟨by rfl,rfl⟩) (by assumption) ?_;try simp only [Act.put,cr,cj,ch,UC,UB,VB]));(iterate 2 (refine ao (v:=?_) aF (by decide) (fun _ _ _ h=>h) (Or.inl ⟨by rfl,?_⟩) (by assumption) ?_;rotate_left;(intro W aH;(try dsimp only [ze] at aH);go_simp;first | done | rfl);try simp only [Act.put,cr,cj,ch,UC,UB,VB]));refine bz ?_;clear aF;clear z0 z1 zf zl zb ac;obtain ⟨z0,z1,zf,zl,zb⟩:=kk.o.cells;go_wp2_with fail;have dI:Hd (km base (wc.setCell ⟨g,1,none⟩ (.int .i64 ((P:Int)+1))) g s (P+1) l A cc R m d xs):=zh (by simpa using kk.o.to_ (p:=P+1) (by omega));have a8:Hd (Below base w (wc.setCell ⟨g,1,none⟩ (.int .i64 ((P:Int)+1)))):=zh (aR.o.setCell zb _)
        go_roundg (i+2 - (P+1))
        case measure=>omega
        case rel=>exact ⟨P+1,rfl,by omega,by omega,zh (by rw [uw.o];rfl),dI,a8⟩
      | false=>
        by_cases zH:c=10
        · subst zH
          go_wp2_with fail;refine wp_region_held_drew (S:=(fun w'=>w'.cell? ⟨g,0,none⟩=some (.string s)∧w'.cell? ⟨g,1,none⟩=some (.int .i64 P))) (by kernel_rfl) (by exact ⟨z0,z1⟩) (fun ac=>?_);refine bw ?_ ac;clear ac;rintro wc hb ac;refine aK 14 (by kernel_rfl) (fun aF=>?_);have kk:Hd (km base wc g s P l A cc R m d xs):=zh (iW.o.below hb);have aR:Hd (Below base w wc):=zh (bu.o.trans (hb.mono (by have h8:=gM.o;omega)));clear hb
          skip
          (iterate 14 (refine ao (v:=?_) aF (by decide) (fun _ _ _ h=>h) (Or.inl ⟨by rfl,?_⟩) (by assumption) ?_;rotate_left;(intro W aH;(try dsimp only [ze] at aH);go_simp;first | done | rfl);try simp only [Act.put,cr,cj,ch,UC,UB,VB]));refine bz ?_;clear aF;clear z0 z1 zf zl zb ac;obtain ⟨z0,z1,zf,zl,zb⟩:=kk.o.cells;go_wp2_with fail;have dI:Hd (km base (wc.setCell ⟨g,1,none⟩ (.int .i64 ((P:Int)+1))) g s (P+1) l A cc R m d xs):=zh (by simpa using kk.o.to_ (p:=P+1) (by omega));have a8:Hd (Below base w (wc.setCell ⟨g,1,none⟩ (.int .i64 ((P:Int)+1)))):=zh (aR.o.setCell zb _)
          go_roundg (i+2 - (P+1))
          case measure=>omega
          case rel=>exact ⟨P+1,rfl,by omega,by omega,zh (by rw [uw.o];rfl),dI,a8⟩
        · have f10:((c.toNat:Int) == 10)=false:=du zH
          (have f11:(c == 10)=false:=by simpa using zH);have Ym:=zh f11;clear f11;go_wp2_with fail;refine wp_region_held_drew (S:=(fun w'=>w'.cell? ⟨g,0,none⟩=some (.string s)∧w'.cell? ⟨g,1,none⟩=some (.int .i64 P))) (by kernel_rfl) (by exact ⟨z0,z1⟩) (fun ac=>?_);refine bw ?_ ac;clear ac;rintro wc hb ac;refine aK 14 (by kernel_rfl) (fun aF=>?_);have kk:Hd (km base wc g s P l A cc R m d xs):=zh (iW.o.below hb);have aR:Hd (Below base w wc):=zh (bu.o.trans (hb.mono (by have h8:=gM.o;omega)));clear hb
          skip
          (iterate 14 (refine ao (v:=?_) aF (by decide) (fun _ _ _ h=>h) (Or.inl ⟨by rfl,?_⟩) (by assumption) ?_;rotate_left;(intro W aH;(try dsimp only [ze] at aH);go_simp;first | done | rfl);try simp only [Act.put,cr,cj,ch,UC,UB,VB]));refine bz ?_;clear aF;clear z0 z1 zf zl zb ac;obtain ⟨z0,z1,zf,zl,zb⟩:=kk.o.cells;go_wp2_with fail;have dI:Hd (km base (wc.setCell ⟨g,1,none⟩ (.int .i64 ((P:Int)+1))) g s (P+1) l A cc R m d xs):=zh (by simpa using kk.o.to_ (p:=P+1) (by omega));have a8:Hd (Below base w (wc.setCell ⟨g,1,none⟩ (.int .i64 ((P:Int)+1)))):=zh (aR.o.setCell zb _)
          go_roundg (i+2 - (P+1))
          case measure=>omega
          case rel=>exact ⟨P+1,rfl,by omega,by omega,zh (by rw [uw.o];rw [Ym.o];rfl),dI,a8⟩
    · obtain rfl:P=i:=by omega
      have cX:=X5.o;go_wp2_with fail;refine wp_region_held_drew (S:=(fun w'=>w'.cell? ⟨g,0,none⟩=some (.string s)∧w'.cell? ⟨g,1,none⟩=some (.int .i64 P))) (by kernel_rfl) (by exact ⟨q0,q1⟩) (fun ac=>?_);refine bw ?_ ac;clear ac;rintro wb hb ac;refine aK 15 (by kernel_rfl) (fun aF=>?_);have fh:Hd (km base wb g s P l A cc R m d xs):=zh (HS.o.below hb);have aE:Hd (Below base w wb):=zh (HB.o.trans (hb.mono (by have h9:=HB.o.size;have h8:=gM.o;omega)));clear hb
      skip
      (iterate 12 (refine ao (v:=?_) aF (by decide) (fun _ _ _ h=>h) (Or.inl ⟨by rfl,?_⟩) (by assumption) ?_;rotate_left;(intro W aH;(try dsimp only [ze] at aH);go_simp;first | done | rfl);try simp only [Act.put,cr,cj,ch,UC,UB,VB]));refine fa (by kernel_rfl) (fun K hK=>?_);go_simp
      go_at_call 46
      refine (eU fh.o.t (by omega) (by omega) (by decide)).mono ?_;rintro e w4 ⟨rfl,dB⟩;rw [cX];have iW:Hd (km base w4 g s P l A cc R m d xs):=zh (fh.o.below dB);have bu:Hd (Below base w w4):=zh (aE.o.trans (dB.mono (by have h9:=aE.o.size;have h8:=gM.o;omega)));clear dB;obtain ⟨z0,z1,zf,zl,zb⟩:=iW.o.cells;refine hK.out _ _ ⟨z0,z1⟩ (fun ac=>?_);clear hK K;(try simp only [Act.put,cr,cj,ch,UC,UB,VB]);(iterate 2 (refine ao (v:=?_) aF (by decide) (fun _ _ _ h=>h) (Or.inl ⟨by rfl,?_⟩) (by assumption) ?_;rotate_left;(intro W aH;(try dsimp only [ze] at aH);go_simp;first | done | rfl);try simp only [Act.put,cr,cj,ch,UC,UB,VB]));refine bz ?_;clear aF;clear q0 q1 qf ql qb ac;have GK:=bu.o.size;(have K_:decide ((P:Int)≥(s.size:Int))=false:=by simp;omega);go_wp2_with fail
      go_region
      all_goals
        obtain ⟨W5,U8⟩:∃ W5,W5=(w4.setCell ⟨g,1,none⟩ (.int .i64 q)).drew:=⟨_,rfl⟩;have dI:Hd (km base W5 g s q l A cc R m d xs):=zh (by rw [U8];exact (iW.o.to_ (p:=q) (by omega)).below (Below.refl _ _).drew);have a8:Hd (Below base w W5):=zh (by rw [U8];exact (bu.o.setCell zb _).drew);have z0:w4.drew.cell? ⟨g,0,none⟩=some (.string s):=z0;have z1:w4.drew.cell? ⟨g,1,none⟩=some (.int .i64 P):=z1;have zf:∀ i,w4.drew.frozen? ⟨g,i,none⟩=false:=zf;have zl:g<w4.drew.heap.size:=zl;go_wp2_with fail;rw [← U8];clear U8 z0 z1 zf zl zb;have hzz5:=a8.o.size;obtain ⟨i0,fL,ga,f_,fZ⟩:=info_parts kQ;obtain ⟨z0,z1,zf,zl,zb⟩:=dI.o.cells;have z3:=dI.o.cell3;have Rs:=Ua.o;go_wp2_with fail
        go_region_law
          (first
            | (refine bE _ rfl _ _ 57 rfl base 90 i0 _ 2 16 underlying57 fL ga f_ fZ rfl (by omega) (.slice R m d) m xs (by simp [Act.eval]) (own_below dI.o.rem (aG _ _).drew) (fun b=>b=W5.heap.size) (.slice (some ⟨W5.heap.size,0,none⟩) 1 1) 1 [.int .i64 p,.int .i64 q] (by simp [Act.eval]) (((aj.new W5 _ _).row (n:=1) rfl (by unfold maxLen;omega) rfl)) (by simp [Value.oneCell']) (by unfold maxLen;omega) (by omega) (by have h9:=dI.o.lo;simp;omega) ?_
               intro v' w3 aD hg bN cX;obtain ⟨B,c',rfl,hS,mB,eF⟩:=dI.o.growR (by omega) (aG _ _).drew aD hg;have Oa:=zh hS;have Qg:=zh (a8.o.trans mB);have s3:=eF.cell 3;simp at s3;have sf:=eF.frozen;have sl:=eF.lt
               clear aD hg bN cX hS mB eF))
        all_goals
          have hzg:=Qg.o.size;cases fl with
          | false=>
            (have e9:L9=l:=by rw [← Od.o,Ul.o,if_neg (by decide)]);have E9:=zh e9;clear e9;go_wp2_with fail
            go_end0
            exact ⟨rfl,by rw [E9.o];exact Oa.o,Qg.o⟩
          | true=>
            go_wp2_with fail;refine (j' Oa.o (by omega) (by omega)).mono ?_;rintro e w6 ⟨rfl,lJ,ft⟩;have rY:=zh lJ;have bf:Hd (Below base w w6):=zh (Qg.o.trans ft);clear lJ ft;(have e9:L9=bB p l:=by rw [← Od.o,Ul.o,if_pos rfl]);have E9:=zh e9;clear e9;go_wp2_with fail
            go_end0
            exact ⟨rfl,by rw [E9.o];exact rY.o,bf.o⟩
end
end Go.Proofs.YtfmgdmeopakdaaaGreatDoor
