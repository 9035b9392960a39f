/- Parts of one proof. -/
import Derived.Test.YtfmgdmeopakdaaaGreatDoorMB1
import Derived.Test.YtfmgdmeopakdaaaGreatDoorMS1
import Derived.Laws.IdiomStrings
import Derived.Laws.BytesArg
import Derived.WalkMore
import Derived.ScopeJumps
import Derived.Test.YtfmgdmeopakdaaaGreatDoorMP1
import Derived.Test.YtfmgdmeopakdaaaGreatDoorProg
import Derived.Lib.DecodeN
import Derived.Lib.OthersKept
import Derived.Shelf.Unicode.DecodeSlow
import Derived.LoopTactic
import Derived.Recover
set_option linter.unusedVariables false
set_option linter.unusedSimpArgs false
namespace Go.Proofs.YtfmgdmeopakdaaaGreatDoor
open Go Go.RowKit Tryz
set_option maxRecDepth 100000
set_option maxHeartbeats 4000000
theorem Dd {s:ByteArray} {w:World}:Calls prog 111 #[.string s] w fun e w'=>e = .returned (.bool (j7 s))∧w'=w:=by
  by_cases h:j7 s=true
  · rw [h]
    have hm:=eo h;clear h;simp only [bA,List.mem_cons,List.not_mem_nil,or_false] at hm
    rcases hm with rfl | rfl | rfl | rfl | rfl | rfl | rfl | rfl | rfl | rfl | rfl | rfl | rfl | rfl | rfl | rfl | rfl | rfl | rfl | rfl | rfl | rfl | rfl | rfl | rfl <;>
      (go_enter func111,ntmps111
       go_wp2_with fail;go_ret
       exact ⟨rfl,rfl⟩)
  · replace h:=Bool.eq_false_iff.2 h
    rw [h];have e0:(s.toList == [98,114,101,97,107])=false:=bq (ai h (by simp [bA]));have e1:(s.toList == [99,97,115,101])=false:=bq (ai h (by simp [bA]));have e2:(s.toList == [99,104,97,110])=false:=bq (ai h (by simp [bA]));have e3:(s.toList == [99,111,110,115,116])=false:=bq (ai h (by simp [bA]));have e4:(s.toList == [99,111,110,116,105,110,117,101])=false:=bq (ai h (by simp [bA]));have e5:(s.toList == [100,101,102,97,117,108,116])=false:=bq (ai h (by simp [bA]));have e6:(s.toList == [100,101,102,101,114])=false:=bq (ai h (by simp [bA]));have e7:(s.toList == [101,108,115,101])=false:=bq (ai h (by simp [bA]));have e8:(s.toList == [102,97,108,108,116,104,114,111,117,103,104])=false:=bq (ai h (by simp [bA]));have e9:(s.toList == [102,111,114])=false:=bq (ai h (by simp [bA]));have QH:(s.toList == [102,117,110,99])=false:=bq (ai h (by simp [bA]));have e11:(s.toList == [103,111])=false:=bq (ai h (by simp [bA]));have Zo:(s.toList == [103,111,116,111])=false:=bq (ai h (by simp [bA]));have Zn:(s.toList == [105,102])=false:=bq (ai h (by simp [bA]));have Zm:(s.toList == [105,109,112,111,114,116])=false:=bq (ai h (by simp [bA]));have e15:(s.toList == [105,110,116,101,114,102,97,99,101])=false:=bq (ai h (by simp [bA]));have e16:(s.toList == [109,97,112])=false:=bq (ai h (by simp [bA]));have e17:(s.toList == [112,97,99,107,97,103,101])=false:=bq (ai h (by simp [bA]));have e18:(s.toList == [114,97,110,103,101])=false:=bq (ai h (by simp [bA]));have e19:(s.toList == [114,101,116,117,114,110])=false:=bq (ai h (by simp [bA]));have e20:(s.toList == [115,101,108,101,99,116])=false:=bq (ai h (by simp [bA]));have e21:(s.toList == [115,116,114,117,99,116])=false:=bq (ai h (by simp [bA]));have e22:(s.toList == [115,119,105,116,99,104])=false:=bq (ai h (by simp [bA]))
    have e23:(s.toList == [116,121,112,101])=false:=bq (ai h (by simp [bA]));have e24:(s.toList == [118,97,114])=false:=bq (ai h (by simp [bA]));clear h;go_enter func111,ntmps111;go_wp2_with fail;go_ret;exact ⟨rfl,rfl⟩
theorem B8 {t:Tk} {w:World} {r:Bool} (hr:mF t=r):Calls prog 145 #[cu t] w fun e w'=>e = .returned (.bool r)∧Below w.heap.size w w':=by
  obtain ⟨k,fr,to_,tx⟩:=t;simp only [cu];have hb:=aG w (.cells #[.int .i64 k,.int .i64 fr,.int .i64 to_,.string tx] 36);have HB:=zh hb;have hB:=aj.new w 36 #[.int .i64 k,.int .i64 fr,.int .i64 to_,.string tx];obtain ⟨q0,q1,q2,q3,qf,ql⟩:=hB.cells4;clear hb hB q1 q2;simp only [mF] at hr;by_cases h1:k=1
  · subst h1
    (obtain rfl:r=true:=by rw [← hr];simp);clear hr;go_enter func145,ntmps145;go_wp2_with fail;go_ret;exact ⟨rfl,HB.o⟩
  by_cases h2:k=2
  · subst h2
    (obtain rfl:r=true:=by rw [← hr];simp);clear hr;go_enter func145,ntmps145;go_wp2_with fail;go_ret;exact ⟨rfl,HB.o⟩
  by_cases h3:k=3
  · subst h3
    (obtain rfl:r=true:=by rw [← hr];simp);clear hr;go_enter func145,ntmps145;go_wp2_with fail;go_ret;exact ⟨rfl,HB.o⟩
  (have f1:(k == 1)=false:=by simpa using h1);(have f2:(k == 2)=false:=by simpa using h2);(have f3:(k == 3)=false:=by simpa using h3);rw [decide_eq_false h1,decide_eq_false h2,decide_eq_false h3] at hr;clear h1 h2 h3;by_cases h4:k=4
  · subst h4
    simp only [Bool.false_or,decide_true,Bool.true_and,show decide ((4:Int)=5)=false from rfl,Bool.false_and,Bool.or_false] at hr;by_cases h:mx [⟨#[98,114,101,97,107]⟩,⟨#[99,111,110,116,105,110,117,101]⟩,⟨#[114,101,116,117,114,110]⟩] tx=true
    · rw [h] at hr
      subst hr;have hm:=eo h;clear h;simp only [List.mem_cons,List.not_mem_nil,or_false] at hm
      rcases hm with rfl | rfl | rfl <;>
        (
         go_enter func145,ntmps145;go_wp2_with fail;go_ret
         exact ⟨rfl,HB.o⟩)
    · replace h:=Bool.eq_false_iff.2 h
      rw [h] at hr;subst hr;have e0:(tx.toList == [98,114,101,97,107])=false:=bq (ai h (by simp));have e1:(tx.toList == [99,111,110,116,105,110,117,101])=false:=bq (ai h (by simp));have e2:(tx.toList == [114,101,116,117,114,110])=false:=bq (ai h (by simp));clear h;go_enter func145,ntmps145;go_wp2_with fail;go_ret;exact ⟨rfl,HB.o⟩
  (have f4:(k == 4)=false:=by simpa using h4);rw [decide_eq_false h4] at hr;clear h4;simp only [Bool.false_or,Bool.false_and] at hr;by_cases h5:k=5
  · subst h5
    simp only [decide_true,Bool.true_and] at hr;by_cases h:mx [⟨#[43,43]⟩,⟨#[45,45]⟩,⟨#[41]⟩,⟨#[93]⟩,⟨#[125]⟩] tx=true
    · rw [h] at hr
      subst hr;have hm:=eo h;clear h;simp only [List.mem_cons,List.not_mem_nil,or_false] at hm
      rcases hm with rfl | rfl | rfl | rfl | rfl <;>
        (
         go_enter func145,ntmps145;go_wp2_with fail;go_ret
         exact ⟨rfl,HB.o⟩)
    · replace h:=Bool.eq_false_iff.2 h
      rw [h] at hr;subst hr;have e0:(tx.toList == [43,43])=false:=bq (ai h (by simp));have e1:(tx.toList == [45,45])=false:=bq (ai h (by simp));have e2:(tx.toList == [41])=false:=bq (ai h (by simp));have e3:(tx.toList == [93])=false:=bq (ai h (by simp));have e4:(tx.toList == [125])=false:=bq (ai h (by simp));clear h;go_enter func145,ntmps145;go_wp2_with fail;go_ret;exact ⟨rfl,HB.o⟩
  (have f5:(k == 5)=false:=by simpa using h5);rw [decide_eq_false h5] at hr;clear h5;simp only [Bool.false_and] at hr;subst hr;go_enter func145,ntmps145;go_wp2_with fail;go_ret;exact ⟨rfl,HB.o⟩
theorem EK {t:Tk} {w:World}:Calls prog 145 #[cu t] w fun e w'=>e = .returned (.bool (mF t))∧Below w.heap.size w w':=B8 rfl
theorem Dm {s:ByteArray} {w:World} (h0:0<s.size) (hs:s.size≤140737488355328):Calls prog 116 #[.string s] w fun e w'=>e = .returned (.int .i64 (ce s))∧w'=w:=by
  obtain ⟨r,hr⟩:∃ r,ce s=r:=⟨_,rfl⟩;rw [hr];(have uE:(s.size:Int)≤140737488355328:=by omega);(have h0i:0<(s.size:Int):=by omega);unfold ce at hr;obtain ⟨c,hc⟩:∃ c,s[0]=c:=⟨_,rfl⟩
  have FP:s.data.toList.headD 0=c:=by
    (have h1:0<s.data.toList.length:=by rw [Array.length_toList];exact h0);rw [List.headD_eq_head?_getD,List.head?_eq_getElem?,List.getElem?_eq_getElem h1,Array.getElem_toList];exact hc
  rw [FP] at hr;clear FP;obtain ⟨x,hx⟩:∃ x,s.extract 0 2=x:=⟨_,rfl⟩;rw [hx] at hr;have HX:=zh hx;have HC:=zh hc;have HP:Hd (∀ w,Calls prog 108 #[.string s,.string ⟨#[46,46,46]⟩] w fun e w'=>e = .returned (.bool (Lib.hasPrefix s.data.toList [46,46,46]))∧w'=w):=zh fun w=>Tryz.strings_HasPrefix s ⟨#[46,46,46]⟩ w
  have HI:Hd (∀ w,Calls prog 147 #[.string ⟨#[43,45,42,47,37,38,33,61,60,62,40,41,91,93,123,125,44,46,58,124]⟩,.int .u8 c.toNat] w fun e w'=>e = .returned (.int .i64 (Lib.indexByte kY c))∧w'=w):=zh fun w=>by
    have:=Tryz.strings_IndexByte ⟨#[43,45,42,47,37,38,33,61,60,62,40,41,91,93,123,125,44,46,58,124]⟩ c.toNat w
    simpa [kY] using this
  (have h1:¬ 1<s.size→x.size≤1:=fun h=>by rw [← hx,ByteArray.size_extract];omega);clear hx;by_cases hd:Lib.hasPrefix s.data.toList [46,46,46]=true
  · rw [if_pos hd] at hr
    subst hr;by_cases hl:1<s.size
    all_goals
      have UX:(decide ((s.size:Int)>1))=decide (1<s.size):=decide_eq_decide.2 (by omega);clear hc;go_enter func116,ntmps116;go_wp2_with fail;refine (HP.o _).mono ?_;rintro e w1 ⟨rfl,hw⟩;subst w1;rw [hd];go_wp2_with fail;go_ret;exact ⟨rfl,rfl⟩
  rw [if_neg hd] at hr;replace hd:=Bool.eq_false_iff.2 hd;by_cases hm:mx ec x=true
  · rw [if_pos hm] at hr
    subst hr;replace hm:=eo hm;by_cases hl:1<s.size
    · have hx:=HX.o
      clear hc h1;simp only [ec,List.mem_cons,List.not_mem_nil,or_false] at hm
      rcases hm with rfl | rfl | rfl | rfl | rfl | rfl | rfl | rfl | rfl | rfl | rfl | rfl | rfl | rfl | rfl <;>
        (go_enter func116,ntmps116
         go_wp2_with fail;refine (HP.o _).mono ?_;rintro e w1 ⟨rfl,hw⟩;subst w1;rw [hd];go_wp2_with fail;go_ret
         exact ⟨rfl,rfl⟩)
    · exfalso
      have h2:=h1 hl;simp only [ec,List.mem_cons,List.not_mem_nil,or_false] at hm;rcases hm with rfl | rfl | rfl | rfl | rfl | rfl | rfl | rfl | rfl | rfl | rfl | rfl | rfl | rfl | rfl <;> exact absurd h2 (by decide)
  replace hm:=Bool.eq_false_iff.2 hm;rw [if_neg (by rw [hm];decide)] at hr;have h:=hm;clear hm;by_cases hl:1<s.size
  · have hx:=HX.o
    have e0:(x.toList == [38,38])=false:=bq (ai h (by simp [ec]));have e1:(x.toList == [124,124])=false:=bq (ai h (by simp [ec]));have e2:(x.toList == [61,61])=false:=bq (ai h (by simp [ec]));have e3:(x.toList == [33,61])=false:=bq (ai h (by simp [ec]));have e4:(x.toList == [60,61])=false:=bq (ai h (by simp [ec]));have e5:(x.toList == [62,61])=false:=bq (ai h (by simp [ec]));have e6:(x.toList == [58,61])=false:=bq (ai h (by simp [ec]));have e7:(x.toList == [43,61])=false:=bq (ai h (by simp [ec]));have e8:(x.toList == [45,61])=false:=bq (ai h (by simp [ec]));have e9:(x.toList == [42,61])=false:=bq (ai h (by simp [ec]));have QH:(x.toList == [47,61])=false:=bq (ai h (by simp [ec]));have e11:(x.toList == [37,61])=false:=bq (ai h (by simp [ec]));have Zo:(x.toList == [43,43])=false:=bq (ai h (by simp [ec]));have Zn:(x.toList == [45,45])=false:=bq (ai h (by simp [ec]));have Zm:(x.toList == [60,45])=false:=bq (ai h (by simp [ec]));clear h h1;go_enter func116,ntmps116;go_wp2_with fail;refine (HP.o _).mono ?_;rintro e w1 ⟨rfl,hw⟩;subst w1;rw [hd];go_wp2_with fail;refine (HI.o _).mono ?_;rintro e w1 ⟨rfl,hw⟩;subst w1;by_cases hi:0≤Lib.indexByte kY c
    · rw [if_pos hi] at hr
      subst hr;go_wp2_with fail;go_ret;exact ⟨rfl,rfl⟩
    · rw [if_neg hi] at hr
      subst hr;go_wp2_with fail;go_ret;exact ⟨rfl,rfl⟩
  · clear h h1
    go_enter func116,ntmps116;go_wp2_with fail;refine (HP.o _).mono ?_;rintro e w1 ⟨rfl,hw⟩;subst w1;rw [hd];go_wp2_with fail;refine (HI.o _).mono ?_;rintro e w1 ⟨rfl,hw⟩;subst w1;by_cases hi:0≤Lib.indexByte kY c
    · rw [if_pos hi] at hr
      subst hr;go_wp2_with fail;go_ret;exact ⟨rfl,rfl⟩
    · rw [if_neg hi] at hr
      subst hr;go_wp2_with fail;go_ret;exact ⟨rfl,rfl⟩
def eg (l:List Tk):List Value:=l.flatMap fun t=>[.int .i64 t.k,.int .i64 t.fr,.int .i64 t.to,.string t.tx]
theorem EC (x:Tk) (l:List Tk):eg (x :: l) = .int .i64 x.k :: .int .i64 x.fr :: .int .i64 x.to :: .string x.tx :: eg l:=rfl
theorem yi (l m:List Tk):eg (l ++ m)=eg l ++ eg m:=by simp [eg]
theorem BX:∀ {l:List Tk} {i:Nat} (h:i<l.length),(eg l)[i * 4]? = some (.int .i64 l[i].k)∧(eg l)[i * 4+1]? = some (.int .i64 l[i].fr)∧(eg l)[i * 4+2]? = some (.int .i64 l[i].to)∧(eg l)[i * 4+3]? = some (.string l[i].tx)
  | x :: l,0,_=>⟨rfl,rfl,rfl,rfl⟩
  | x :: l,i+1,h=>by
    have:=BX (l:=l) (i:=i) (by simpa using h);rw [EC];simp only [ch];rw [show (i+1) * 4=i * 4+1+1+1+1 from by omega]
    simpa [List.getElem?_cons_succ,show i * 4+1+1+1+1+2=i * 4+2+1+1+1+1 from by omega,show i * 4+1+1+1+1+3=i * 4+3+1+1+1+1 from by omega] using this
theorem re {w:World} {base g cap:Nat} {e:TypeId} {l:List Tk} (h:w.ownsRow base e 4 (.slice (some ⟨g,0,none⟩) l.length cap) l.length (eg l)) {i:Nat} (hi:i<l.length) :
    w.cell? ⟨g,i * 4,none⟩=some (.int .i64 l[i].k)∧w.cell? ⟨g,i * 4+1,none⟩=some (.int .i64 l[i].fr)∧w.cell? ⟨g,i * 4+2,none⟩=some (.int .i64 l[i].to)∧w.cell? ⟨g,i * 4+3,none⟩=some (.string l[i].tx):=by
  obtain ⟨h0,h1,h2,h3⟩:=BX hi;exact ⟨by rw [h.cellAt _ (by omega),h0],by rw [h.cellAt _ (by omega),h1],by rw [h.cellAt _ (by omega),h2],by rw [h.cellAt _ (by omega),h3]⟩
theorem rq:(prog.info? 36).map (fun i=>(i.zero,i.size,i.bytes))=some (some (.agg #[.int .i64 0,.int .i64 0,.int .i64 0,.string ByteArray.empty]),4,40):=by kernel_rfl
theorem kQ:(prog.info? 90).map (fun i=>(i.zero,i.size,i.bytes))=some (some (.agg #[.int .i64 0,.int .i64 0]),2,16):=by kernel_rfl
structure NG (base:Nat) (w:World) (g:Nat) (s:ByteArray) (at_:Nat) (l:List Tk) (A:Option Addr) (c:Nat) (R:Option Addr) (m d:Nat) (xs:List Value):Prop where
  blk:aj w g 83 #[.string s,.int .i64 at_,.slice A l.length c,.slice R m d]
  tok:w.ownsRow base 36 4 (.slice A l.length c) l.length (eg l)
  rem:w.ownsRow base 90 2 (.slice R m d) m xs
  mle:m≤at_
  lo:base≤g
def mK (base:Nat) (w:World) (g:Nat) (s:ByteArray) (at_:Nat) (l:List Tk):Prop:=∃ A c R m d xs,NG base w g s at_ l A c R m d xs
def EW (p:Int):List PanicEntry:=[{ v:=.iface 92 (.agg #[.int .i64 3,.string ⟨#[]⟩,.int .i64 p]),recovered:=false }]
theorem LI (v:Value) (w:World):(Instr.panic (.iface 92 v)).run prog w = .halt (.panic (.iface 92 v)) w:=by kernel_rfl
section
variable {w w':World} {base g at_:Nat} {s:ByteArray} {l:List Tk}
theorem dQ {p:Int} {v:Value}:Calls prog 110 #[v,.int .i64 p] w fun e w'=>e = .panicked (EW p)∧w'=w:=by
  have YF:=LI;go_enter func110,ntmps110;go_wp2_with fail;exact ⟨rfl,rfl,rfl⟩
theorem zg {e e':TypeId} {size size' n n':Nat} {v v':Value} {xs xs':List Value} (h:w.ownsRow base e size v n xs) (h':w.ownsRow base e' size' v' n' xs') (he:e≠e') {k:Nat} (hk:v.ownBlock=some k):v'.ownBlock≠some k:=by
  intro UZ;rcases h.2 with ⟨rfl,_⟩ | ⟨a,cap,cur,rfl,_,hg,_⟩
  · cases hk
  rcases h'.2 with ⟨rfl,_⟩ | ⟨b,cap',cur',rfl,_,YQ,_⟩
  · cases UZ
  cases hk;cases UZ;rw [hg] at YQ;cases YQ;exact he rfl
theorem NG.grow {A:Option Addr} {c:Nat} {R:Option Addr} {m d:Nat} {xs:List Value} {W w3:World} {v':Value} {t:Tk} (h:NG base w g s at_ l A c R m d xs) (hW:Below w.heap.size w W) (aD:w3.ownsRow base 36 4 v' (l.length+1) (eg l ++ [.int .i64 t.k,.int .i64 t.fr,.int .i64 t.to,.string t.tx]))
    (hg:W.grownBy w3 (Value.slice A l.length c).ownBlock):∃ B c',v' = .slice B (l.length+1) c'∧mK base (w3.setCell ⟨g,2,none⟩ (.slice B (l.length+1) c')) g s at_ (l ++ [t])∧Below base w (w3.setCell ⟨g,2,none⟩ (.slice B (l.length+1) c'))∧aj w3 g 83 #[.string s,.int .i64 at_,.slice A l.length c,.slice R m d]:=by
  obtain ⟨B,c',rfl⟩:=cA aD;have sE:=h.blk.lt;have hz:=hW.size;have eF:aj w3 g 83 #[.string s,.int .i64 at_,.slice A l.length c,.slice R m d]:=(h.blk.below hW sE).grown hg (fun e=>cD h.tok h.blk (by decide) e.symm)
  have Ij:w3.ownsRow base 90 2 (.slice R m d) m xs:=(own_below h.rem hW).kept hg (by
    cases hA:(Value.slice R m d).ownBlock with
    | none=>exact .inl rfl
    | some k=>exact .inr fun e=>zg h.rem h.tok (by decide) hA e.symm)
  have OL:Below base w w3:=(hW.mono (Nat.le_trans h.lo (Nat.le_of_lt sE))).trans ⟨hg.os,hg.tape,hg.output,hg.size,fun b hb=>hg.block b (by have:=h.lo;omega) (fun e=>by
    have:=(h.tok.lt b e.symm).1
    omega)⟩
  refine ⟨B,c',rfl,⟨B,c',R,m,d,xs,?_,?_,?_,h.mle,h.lo⟩,OL.setCell h.lo _,eF⟩
  · simpa using eF.set_ 2 (.slice B (l.length+1) c')
  · rw [yi]
    (have:w3.ownsRow base 36 4 (.slice B (l ++ [t]).length c') (l ++ [t]).length (eg l ++ eg [t]):=by simpa [eg] using aD);exact bk this fun k hk=>Below.heap_setCell w3 ⟨g,2,none⟩ _ k (fun e=>cD this eF (by decide) (by rw [hk,e]))
  · exact bk Ij fun k hk=>Below.heap_setCell w3 ⟨g,2,none⟩ _ k (fun e=>cD Ij eF (by decide) (by rw [hk,e]))
end
set_option maxRecDepth 100000
set_option maxHeartbeats 4000000
section
variable {w w':World} {base g at_:Nat} {s:ByteArray} {l:List Tk}
theorem gY {k fr:Int} {tx:ByteArray} (h:mK base w g s at_ l) (hl:l.length≤1000000) :
    Calls prog 112 #[.pointer (some ⟨g,0,none⟩),.int .i64 k,.int .i64 fr,.string tx] w fun e w'=>e = .returned (.tuple #[])∧mK base w' g s at_ (l ++ [⟨k,fr,at_,tx⟩])∧Below base w w':=by
  obtain ⟨A,c,R,m,d,xs,hm⟩:=h;have H:=zh hm;have dA:=hm.lo;have q0:=hm.blk.cell 0;have q1:=hm.blk.cell 1;have q2:=hm.blk.cell 2;have q3:=hm.blk.cell 3;simp at q0 q1 q2 q3;have qf:=hm.blk.frozen;have ql:=hm.blk.lt;clear hm;obtain ⟨i0,fL,ga,f_,fZ⟩:=info_parts rq;go_enter func112,ntmps112
  go_region_law
    (first
      | (refine bE _ rfl _ _ 32 rfl base 36 i0 _ 4 40 underlying32 fL ga f_ fZ rfl (by omega) (.slice A l.length c) l.length (eg l) (by simp [Act.eval]) (own_below H.o.tok (aG _ _).drew) (fun b=>b=w.heap.size) (.slice (some ⟨w.heap.size,0,none⟩) 1 1) 1 [.int .i64 k,.int .i64 fr,.int .i64 at_,.string tx] (by simp [Act.eval]) (((aj.new w _ _).row (n:=1) rfl (by unfold maxLen;omega) rfl)) (by simp [Value.oneCell']) (by unfold maxLen;omega) (by omega) (by simp;omega) ?_
         intro v' w3 aD hg bN cX;obtain ⟨B,c',rfl,hS,mB,eF⟩:=H.o.grow (t:=⟨k,fr,at_,tx⟩) (aG _ _).drew aD hg;have HS:=zh hS;have sZ:=zh mB;have s2:=eF.cell 2;simp at s2;have sf:=eF.frozen;have sl:=eF.lt
         clear aD hg bN cX hS mB eF))
  all_goals
    go_end0
    exact ⟨rfl,HS.o,sZ.o⟩
theorem k6 {p:Int} (h:mK base w g s at_ l) (hl:l.length≤1000000) (iw:base≤w.heap.size) :
    Calls prog 107 #[.pointer (some ⟨g,0,none⟩),.int .i64 p] w fun e w'=>e = .returned (.tuple #[])∧mK base w' g s at_ (bB p l)∧Below base w w':=by
  obtain ⟨A,c,R,m,d,xs,hm⟩:=h;have H:=zh hm;have dA:=hm.lo;have q2:=hm.blk.cell 2;simp at q2;have ql:=hm.blk.lt;clear hm;obtain ⟨i0,fL,ga,f_,fZ⟩:=info_parts rq;rcases Nat.eq_zero_or_pos l.length with h0 | h0
  · obtain rfl:l=[]:=List.eq_nil_of_length_eq_zero h0
    clear h0;go_enter func107,ntmps107;go_wp2_with fail
    go_end0
    exact ⟨rfl,⟨A,c,R,m,d,xs,H.o⟩,Below.refl _ _⟩
  obtain ⟨n,hn⟩:∃ n,l.length=n+1:=⟨l.length - 1,by omega⟩;obtain ⟨tg,c0,hA,-⟩:=H.o.tok.form h0;cases hA;obtain ⟨t0,t1,t2,t3⟩:=re H.o.tok (i:=n) (by omega);obtain ⟨t,ht⟩:∃ t,l[n]'(by omega)=t:=⟨_,rfl⟩;rw [ht] at t0 t1 t2 t3
  have pT:l.getLast? = some t:=by
    rw [List.getLast?_eq_getElem?,hn,Nat.add_sub_cancel,List.getElem?_eq_getElem (by omega),ht]
  have HL:Hd (bB p l=if mF t=true then l ++ [⟨6,p,p,⟨#[10]⟩⟩] else l):=zh (by unfold bB;rw [pT]);(have Qv:(n:Int)≤1000000:=by omega);(have BP:((l.length:Nat):Int)=(n:Int)+1:=by omega);(have hgt:(l.length:Int)>0:=by omega);(have Wz:IntKind.i64.wrap ((l.length:Int) - 1)=(n:Int):=by rw [BP,Int.add_sub_cancel,IntKind.wrap_i64];omega);(have fs:(n:Int)<(l.length:Int):=by omega);(have hz:(0:Int)≤(n:Int):=by omega);clear pT ht hn BP h0;go_enter func107,ntmps107;go_wp2_with fail;refine (EK (t:=t)).mono ?_;rintro e w1 ⟨rfl,cB⟩;have et:=cB.size;by_cases he:mF t=true
  · rw [he] at HL ⊢
    rw [if_pos rfl] at HL;have Mc:=H.o.blk.below cB ql;have p2:=Mc.cell 2;simp at p2;have pl:=Mc.lt;have a7:=zh cB;clear q2 t0 t1 t2 t3 Mc cB he;go_wp2_with (at_builtin;refine au _ rfl _ _ 32 rfl base 36 i0 _ 4 40 underlying32 fL ga f_ fZ rfl (by omega) (.slice (some ⟨tg,0,none⟩) l.length c) l.length (eg l) rfl (own_below H.o.tok (a7.o.alloc et _)) (fun b=>b=w1.heap.size) (.slice (some ⟨w1.heap.size,0,none⟩) 1 1) 1 [.int .i64 6,.int .i64 p,.int .i64 p,.string ⟨#[10]⟩] rfl ((aj.new w1 _ _).row (n:=1) rfl (by unfold maxLen;omega) rfl) (by simp [Value.oneCell']) (by unfold maxLen;omega) (by omega) (by simp;omega) ?_);intro v' w3 aD hg bN cX;obtain ⟨B,c',rfl,hS,mB,eF⟩:=H.o.grow (t:=⟨6,p,p,⟨#[10]⟩⟩) (a7.o.alloc et _) aD hg;have HS:=zh hS;have sZ:=zh mB;have s2:=eF.cell 2;simp at s2;have sf:=eF.frozen;have sl:=eF.lt;clear aD hg bN cX hS mB eF;go_wp2_with fail
    go_end0
    exact ⟨rfl,by rw [HL.o];exact HS.o,sZ.o⟩
  · rw [Bool.eq_false_iff.2 he] at HL ⊢
    rw [if_neg (by decide)] at HL;have a7:=zh cB;clear cB he;go_wp2_with fail
    go_end0
    refine ⟨rfl,?_,a7.o.mono iw⟩;rw [HL.o];exact ⟨_,c,R,m,d,xs,H.o.blk.below a7.o ql,own_below H.o.tok a7.o,own_below H.o.rem a7.o,H.o.mle,H.o.lo⟩
end
theorem du {x c:UInt8} (h:¬ x=c):((x.toNat:Int) == (c.toNat:Int))=false:=by
  rw [beq_eq_false_iff_ne];intro e;exact h (UInt8.toNat_inj.1 (by omega))
set_option maxRecDepth 100000
set_option maxHeartbeats 4000000
section
variable {w w':World} {base g at_:Nat} {s:ByteArray} {l:List Tk}
def Qh (p:Nat) (o:Option UInt8) (e:Ending):Prop:=(∃ x,o=some x∧e = .returned (.int .u8 x.toNat))∨(o=none∧e = .panicked (EW p))
theorem Mi {p:Nat} (h:mK base w g s at_ l) (hp:¬ p+1<s.size) (AD:p≤140737488355328) (LW:s.size≤140737488355328) :
    Calls prog 149 #[.pointer (some ⟨g,0,none⟩),.int .i64 p] w fun e w'=>e = .panicked (EW p)∧w'=w:=by
  obtain ⟨A,c,R,m,d,xs,hm⟩:=h;have q0:=hm.blk.cell 0;simp at q0;(have D5:(p:Int)≤140737488355328:=by omega);(have fs:¬ ((p:Int)+1<(s.size:Int)):=by omega);(have uE:(s.size:Int)≤140737488355328:=by omega);clear hm;go_enter func149,ntmps149;go_wp2_with fail;refine dQ.mono ?_;rintro e w1 ⟨rfl,hw⟩;subst w1;go_wp2_with fail;exact ⟨rfl,rfl,rfl⟩
theorem Pi {p:Nat} {x:UInt8} (h:mK base w g s at_ l) (hp:p+1<s.size) (hx:s[p+1]=x) (AD:p≤140737488355328) (LW:s.size≤140737488355328) :
    Calls prog 149 #[.pointer (some ⟨g,0,none⟩),.int .i64 p] w fun e w'=>Qh p (oG x) e∧w'=w:=by
  obtain ⟨A,c,R,m,d,xs,hm⟩:=h;have q0:=hm.blk.cell 0;simp at q0;(have D5:(p:Int)≤140737488355328:=by omega);(have fs:(p:Int)+1<(s.size:Int):=by omega);(have uE:(s.size:Int)≤140737488355328:=by omega);have HX:=zh hx;clear hm;by_cases C8:x=92
  · subst C8
    go_enter func149,ntmps149;go_wp2_with fail;go_ret;exact ⟨.inl ⟨92,by decide,rfl⟩,rfl⟩
  by_cases sc:x=34
  · subst sc
    go_enter func149,ntmps149;go_wp2_with fail;go_ret;exact ⟨.inl ⟨34,by decide,rfl⟩,rfl⟩
  by_cases Mf:x=110
  · subst Mf
    go_enter func149,ntmps149;go_wp2_with fail;go_ret;exact ⟨.inl ⟨10,by decide,rfl⟩,rfl⟩
  by_cases Me:x=116
  · subst Me
    go_enter func149,ntmps149;go_wp2_with fail;go_ret;exact ⟨.inl ⟨9,by decide,rfl⟩,rfl⟩
  have f1:((x.toNat:Int) == 92)=false:=du C8;have f2:((x.toNat:Int) == 34)=false:=du sc;have f3:((x.toNat:Int) == 110)=false:=du Mf;have f4:((x.toNat:Int) == 116)=false:=du Me;have HE:Hd (oG x=none):=zh (by unfold oG;rw [if_neg (by rintro (h | h);exact C8 h;exact sc h),if_neg Mf,if_neg Me]);clear C8 sc Mf Me;go_enter func149,ntmps149;go_wp2_with fail;refine dQ.mono ?_;rintro e w1 ⟨rfl,hw⟩;subst w1;go_wp2_with fail;exact ⟨rfl,.inr ⟨HE.o,rfl⟩,rfl⟩
end
theorem zA:(prog.info? 5).map (fun i=>(i.zero,i.size,i.bytes))=some (some (.int .u8 0),1,1):=by kernel_rfl
def vb (l:List UInt8):List Value:=l.map fun b=>.int .u8 (b.toNat:Int)
theorem It (l:List UInt8):∀ u ∈ vb l,u.oneCell'=true:=by
  intro u h;obtain ⟨x,_,rfl⟩:=List.mem_map.1 h;rfl
theorem Cl {w:World} {base:Nat} {l:List UInt8} {v:Value} (h:w.ownsRow base 5 1 v l.length (vb l)):(convert 40 9 v).run prog w = .ok (.string ⟨l.toArray⟩) w:=by
  obtain ⟨A,c,rfl⟩:=cA h;rcases Nat.eq_zero_or_pos l.length with h0 | h0
  · obtain rfl:l=[]:=List.eq_nil_of_length_eq_zero h0
    rcases h.2 with ⟨h1,-⟩ | ⟨g,c',cur,h1,-⟩
    · cases h1
      exact run_convert_bytes_nil w 40 5 underlying40 underlying5 0 0 9 underlying9
    · cases h1
      exact run_convert_bytes_back (P:=prog) w 40 9 5 ⟨g,0,none⟩ c [] underlying40 underlying5 underlying9 (fun j hj=>by simp at hj)
  · obtain ⟨g,c',hv,-⟩:=h.form h0
    cases hv
    exact run_convert_bytes_back (P:=prog) w 40 9 5 ⟨g,0,none⟩ c l underlying40 underlying5 underlying9 (fun j hj=>by
      have h2:=h.cellAt j (by omega);rw [show Addr.add ⟨g,0,none⟩ j=⟨g,j,none⟩ from by unfold Addr.add;split <;> simp_all,h2]
      simp [vb,List.getElem?_map,List.getElem?_eq_getElem hj])
theorem NG.but {base:Nat} {w w':World} {g:Nat} {s:ByteArray} {at_ p:Nat} {l:List Tk} {A:Option Addr} {c:Nat} {R:Option Addr} {m d:Nat} {xs:List Value} (h:NG base w g s at_ l A c R m d xs) (hb:ay (fun k=>k=g) w w') (hB:aj w' g 83 #[.string s,.int .i64 p,.slice A l.length c,.slice R m d]) (hp:at_≤p):NG base w' g s p l A c R m d xs:=
  ⟨hB,bk h.tok fun k hk=>hb.block k (h.tok.lt k hk).2 (fun e=>cD h.tok h.blk (by decide) (by rw [hk,e])),bk h.rem fun k hk=>hb.block k (h.rem.lt k hk).2 (fun e=>cD h.rem h.blk (by decide) (by rw [hk,e])),Nat.le_trans h.mle hp,h.lo⟩
theorem cH {base g:Nat} {w w':World} (hb:ay (fun k=>k=g) w w') (hg:base≤g) (hw:base≤w.heap.size):Below base w w':=hb.below (fun k _ e=>by subst e;exact hg) hw
set_option maxRecDepth 100000
set_option maxHeartbeats 4000000
section
variable {w w':World} {base g at_:Nat} {s:ByteArray} {l:List Tk}
def Mu (base:Nat) (w:World) (g:Nat) (s:ByteArray) (at_:Nat) (l:List Tk) (r:Except Int (Nat×List UInt8)) (e:Ending) (w':World):Prop:=
  Below base w w'∧match r with
  | .error p=>e = .panicked (EW p)
  | .ok (q,tx)=>e = .returned (.tuple #[])∧mK base w' g s q (l ++ [⟨3,at_,q,⟨tx.toArray⟩⟩])
theorem Df (h:mK base w g s at_ l) (hl:l.length≤100000) (hs:s.size≤65536) (cX:at_<s.size) (iw:base≤w.heap.size) :
    Calls prog 115 #[.pointer (some ⟨g,0,none⟩)] w (Mu base w g s at_ l (bP at_ (s.data.toList.drop (at_+1)) (at_+1) [])):=by
  obtain ⟨A,c,R,m,d,xs,hm⟩:=h;obtain ⟨r,hr⟩:∃ r,bP at_ (s.data.toList.drop (at_+1)) (at_+1) []=r:=⟨_,rfl⟩;rw [hr];have H:=zh hm;have HR:=zh hr;have dA:=hm.lo;have q0:=hm.blk.cell 0;have q1:=hm.blk.cell 1;simp at q0 q1;have qf:=hm.blk.frozen;have ql:=hm.blk.lt;(have U5:(at_:Int)<(s.size:Int):=by omega);(have uE:(s.size:Int)≤65536:=by omega);clear hm hr;obtain ⟨i0,fL,ga,f_,fZ⟩:=info_parts zA;go_enter func115,ntmps115;go_wp2_with fail;have cT:Hd (ay (fun k=>k=g) w (w.setCell ⟨g,1,none⟩ (.int .i64 (at_+1)))):=zh ((ay.refl (fun k=>k=g) w).set_ (p:=⟨g,1,none⟩) (.inr rfl) _);have MU:Hd (aj (w.setCell ⟨g,1,none⟩ (.int .i64 (at_+1))) g 83 #[.string s,.int .i64 ((at_+1:Nat):Int),.slice A l.length c,.slice R m d]):=zh (by simpa using H.o.blk.set_ 1 (.int .i64 (at_+1)));clear q1
  go_loopg [3] (s.size+1 - (at_+1)) (fun f v wr=>∃ (p:Nat) (acc:List UInt8),f=s.size+1 - p∧at_<p∧p≤s.size∧acc.length≤p∧Hd (wr.ownsRow w.heap.size 5 1 v acc.length (vb acc))∧Hd (ay (fun k=>k=g) w wr)∧Hd (aj wr g 83 #[.string s,.int .i64 p,.slice A l.length c,.slice R m d])∧Hd (bP at_ (s.data.toList.drop p) p acc=r))
  case atStart=>exact ⟨at_+1,[],rfl,by omega,by omega,by simp,World.ownsRow_nil _ _ _ _,cT,MU,HR⟩
  case round=>
    obtain ⟨p,acc,rfl,r_,jM,QC,HO,HB,HK,HT⟩:=hrel;(try rename World=>wr);have q0:=HK.o.cell 0;have q1:=HK.o.cell 1;simp at q0 q1;have y_:=HK.o.lt;(have D5:(p:Int)≤(s.size:Int):=by omega);(have eN:s.data.toList.length=s.size:=by rw [Array.length_toList];rfl);by_cases hp:p<s.size
    case neg=>
      have Eb:(p:Int)≥(s.size:Int):=by omega
      obtain rfl:r = .error at_:=by
        have h1:=HT.o;rw [List.drop_eq_nil_of_le (by omega)] at h1;exact h1.symm
      clear HT HR;go_wp2_with fail;refine wp_region_held_drew (S:=(fun w'=>w'.cell? ⟨g,0,none⟩=some (.string s)∧w'.cell? ⟨g,1,none⟩=some (.int .i64 p))) (by kernel_rfl) (by exact ⟨q0,q1⟩) (fun ac=>?_);refine bw ?_ ac;clear ac;rintro wn hb ac;refine aK 22 (by kernel_rfl) (fun aF=>?_);have Yg:=zh (HB.o.then_ hb);clear hb q0 q1;(iterate 11 (refine ao (v:=?_) aF (by decide) (fun _ _ _ h=>h) (Or.inl ⟨by rfl,?_⟩) (by assumption) ?_;rotate_left;(intro W aH;(try dsimp only at aH);go_simp;first | done | rfl);try simp only [Act.put,cr,cj,ch,UC,UB,VB]));iterate 10 (refine ao (v:=undef) aF (by decide) (fun _ _ _ h=>h) (Or.inr ⟨by rfl,rfl⟩) (by assumption) ?_;try simp only [Act.put,cr,cj,ch,UC,UB,VB])
      (refine ao (v:=?_) aF (by decide) (fun _ _ _ h=>h) (Or.inl ⟨by rfl,?_⟩) (by assumption) ?_;rotate_left;(intro W aH;(try dsimp only at aH);go_simp;first | done | rfl);try simp only [Act.put,cr,cj,ch,UC,UB,VB])
      refine bz ?_;clear aF;go_wp2_with fail;refine dQ.mono ?_;rintro e w1 ⟨rfl,hw⟩;subst w1;go_wp2_with fail;exact ⟨rfl,cH Yg.o dA iw,rfl⟩
    case pos=>
      obtain ⟨x,hx⟩:∃ x,s[p]=x:=⟨_,rfl⟩;(have fs:(p:Int)<(s.size:Int):=by omega);have Ns:decide (s.size≤p)=false:=decide_eq_false (by omega)
      have d9:s.data.toList.drop p=x :: s.data.toList.drop (p+1):=by
        rw [List.drop_eq_getElem_cons (by omega),Array.getElem_toList];exact congrArg (· :: _) hx
      rw [d9] at HT;clear d9;by_cases oa:x=10
      · subst oa
        obtain rfl:r = .error at_:=by
          have h1:=HT.o;unfold bP at h1;exact h1.symm
        clear HT HR;go_wp2_with fail;refine wp_region_held_drew (S:=(fun w'=>w'.cell? ⟨g,0,none⟩=some (.string s)∧w'.cell? ⟨g,1,none⟩=some (.int .i64 p))) (by kernel_rfl) (by exact ⟨q0,q1⟩) (fun ac=>?_);refine bw ?_ ac;clear ac;rintro wn hb ac;refine aK 22 (by kernel_rfl) (fun aF=>?_);have Yg:=zh (HB.o.then_ hb);clear hb q0 q1;(iterate 22 (refine ao (v:=?_) aF (by decide) (fun _ _ _ h=>h) (Or.inl ⟨by rfl,?_⟩) (by assumption) ?_;rotate_left;(intro W aH;(try dsimp only at aH);go_simp;first | done | rfl);try simp only [Act.put,cr,cj,ch,UC,UB,VB]));refine bz ?_;clear aF;go_wp2_with fail;refine dQ.mono ?_;rintro e w1 ⟨rfl,hw⟩;subst w1;go_wp2_with fail;exact ⟨rfl,cH Yg.o dA iw,rfl⟩
      have f10:((x.toNat:Int) == 10)=false:=du oa;go_wp2_with fail;refine wp_region_held_drew (S:=(fun w'=>w'.cell? ⟨g,0,none⟩=some (.string s)∧w'.cell? ⟨g,1,none⟩=some (.int .i64 p))) (by kernel_rfl) (by exact ⟨q0,q1⟩) (fun ac=>?_);refine bw ?_ ac;clear ac;rintro wa hb ac;refine aK 22 (by kernel_rfl) (fun aF=>?_);have jS:Hd (aj wa g 83 #[.string s,.int .i64 p,.slice A l.length c,.slice R m d]):=zh (HK.o.below hb y_);have wJ:Hd (ay (fun k=>k=g) w wa):=zh (HB.o.then_ hb);have Iq:Hd (wa.ownsRow w.heap.size 5 1 u3 acc.length (vb acc)):=zh (own_below HO.o hb);have ox:g<wa.heap.size:=Nat.lt_of_lt_of_le y_ hb.size;clear hb;clear q0 q1;(iterate 22 (refine ao (v:=?_) aF (by decide) (fun _ _ _ h=>h) (Or.inl ⟨by rfl,?_⟩) (by assumption) ?_;rotate_left;(intro W aH;(try dsimp only at aH);go_simp;first | done | rfl);try simp only [Act.put,cr,cj,ch,UC,UB,VB]));refine bz ?_;clear aF;have q0:=jS.o.cell 0;have q1:=jS.o.cell 1;simp at q0 q1;go_wp2_with fail;refine wp_region_held_drew (S:=(fun w'=>w'.cell? ⟨g,0,none⟩=some (.string s)∧w'.cell? ⟨g,1,none⟩=some (.int .i64 p))) (by kernel_rfl) (by exact ⟨q0,q1⟩) (fun ac=>?_);refine bw ?_ ac;clear ac;rintro wb hb ac;refine aK 10 (by kernel_rfl) (fun aF=>?_);have lT:Hd (aj wb g 83 #[.string s,.int .i64 p,.slice A l.length c,.slice R m d]):=zh (jS.o.below hb ox);have wI:Hd (ay (fun k=>k=g) w wb):=zh (wJ.o.then_ hb);have nV:Hd (wb.ownsRow w.heap.size 5 1 u3 acc.length (vb acc)):=zh (own_below Iq.o hb);have iQ:g<wb.heap.size:=Nat.lt_of_lt_of_le ox hb.size;clear hb;clear q0 q1;(iterate 10 (refine ao (v:=?_) aF (by decide) (fun _ _ _ h=>h) (Or.inl ⟨by rfl,?_⟩) (by assumption) ?_;rotate_left;(intro W aH;(try dsimp only at aH);go_simp;first | done | rfl);try simp only [Act.put,cr,cj,ch,UC,UB,VB]));refine bz ?_;clear aF;have q0:=lT.o.cell 0;have q1:=lT.o.cell 1;simp at q0 q1;have qf:=lT.o.frozen
      have nF:Hd (aj (wb.setCell ⟨g,1,none⟩ (.int .i64 (p+1))) g 83 #[.string s,.int .i64 ((p+1:Nat):Int),.slice A l.length c,.slice R m d]):=zh (by simpa using lT.o.set_ 1 (.int .i64 (p+1)));have be:Hd (ay (fun k=>k=g) w (wb.setCell ⟨g,1,none⟩ (.int .i64 (p+1)))):=zh (wI.o.set_ (p:=⟨g,1,none⟩) (.inr rfl) _);have Gg:Hd ((wb.setCell ⟨g,1,none⟩ (.int .i64 (p+1))).ownsRow w.heap.size 5 1 u3 acc.length (vb acc)):=zh (bk nV.o fun k hk=>Below.heap_setCell wb ⟨g,1,none⟩ _ k (fun e=>by have h9:=(nV.o.lt k hk).1;have h8:k=g:=e;omega));obtain ⟨w3,Rc⟩:∃ w3,wb.setCell ⟨g,1,none⟩ (.int .i64 (p+1))=w3:=⟨_,rfl⟩;rw [Rc] at nF be Gg;have ql3:=nF.o.lt;have qz3:=be.o.size;by_cases sc:x=34
      · subst sc
        obtain rfl:r = .ok (p+1,acc):=by
          have h1:=HT.o;unfold bP at h1;exact h1.symm
        clear HT HR;have HCO:=Cl Gg.o;go_wp2_with fail;refine (gY (base:=base) (at_:=p+1) ⟨_,_,_,_,_,_,H.o.but be.o nF.o (by omega)⟩ (by omega)).mono ?_;rintro e w4 ⟨rfl,hS,dB⟩;have iW:=zh hS;have bu:=zh ((cH be.o dA iw).trans dB);clear hS dB;go_wp2_with fail;refine bodyPost_ret (results_none rfl _ _ _) rfl ?_;exact ⟨bu.o,rfl,iW.o⟩
      have Sj:((x.toNat:Int) == 34)=false:=du sc;by_cases C8:x=92
      · subst C8
        have q0:=nF.o.cell 0;have q1:=nF.o.cell 1;simp at q0 q1;have qf:=nF.o.frozen;by_cases Rj:p+1<s.size
        case neg=>
          obtain rfl:r = .error p:=by
            have h1:=HT.o;rw [List.drop_eq_nil_of_le (by omega)] at h1;unfold bP at h1;exact h1.symm
          clear HT HR;go_wp2_with fail;refine (Mi (p:=p) ⟨_,_,_,_,_,_,H.o.but be.o nF.o (by omega)⟩ Rj (by omega) (by omega)).mono ?_;rintro e w1 ⟨rfl,hw⟩;subst w1;go_wp2_with fail;exact ⟨rfl,cH be.o dA iw,rfl⟩
        case pos=>
          obtain ⟨y,hy⟩:∃ y,s[p+1]=y:=⟨_,rfl⟩
          have d9:s.data.toList.drop (p+1)=y :: s.data.toList.drop (p+2):=by
            rw [List.drop_eq_getElem_cons (by omega),Array.getElem_toList];exact congrArg (· :: _) hy
          rw [d9] at HT;clear d9;have HY:=zh hy;clear hy;go_wp2_with fail;refine (Pi (p:=p) ⟨_,_,_,_,_,_,H.o.but be.o nF.o (by omega)⟩ Rj HY.o (by omega) (by omega)).mono ?_;rintro e w1 ⟨iR,hw⟩;subst w1;rcases iR with ⟨z,hz,rfl⟩ | ⟨hz,rfl⟩
          case inr=>
            obtain rfl:r = .error p:=by
              have h1:=HT.o;unfold bP at h1;rw [if_neg (by decide),if_neg (by decide),if_pos rfl] at h1;simp only [hz] at h1;exact h1.symm
            clear HT HR;go_wp2_with fail;exact ⟨rfl,cH be.o dA iw,rfl⟩
          case inl=>
            have fH:Hd (bP at_ (s.data.toList.drop (p+2)) (p+2) (acc ++ [z])=r):=zh (by
              have h1:=HT.o;unfold bP at h1;rw [if_neg (by decide),if_neg (by decide),if_pos rfl] at h1;simp only [hz] at h1
              exact h1)
            clear HT hz;have qE:Hd (aj (w3.setCell ⟨g,1,none⟩ (.int .i64 (p+1+1))) g 83 #[.string s,.int .i64 ((p+2:Nat):Int),.slice A l.length c,.slice R m d]):=zh (by rw [show ((p+2:Nat):Int)=(p:Int)+1+1 from by omega];simpa using nF.o.set_ 1 (.int .i64 (p+1+1)));have bu:Hd (ay (fun k=>k=g) w (w3.setCell ⟨g,1,none⟩ (.int .i64 (p+1+1)))):=zh (be.o.set_ (p:=⟨g,1,none⟩) (.inr rfl) _);have qO:Hd ((w3.setCell ⟨g,1,none⟩ (.int .i64 (p+1+1))).ownsRow w.heap.size 5 1 u3 acc.length (vb acc)):=zh (bk Gg.o fun k hk=>Below.heap_setCell w3 ⟨g,1,none⟩ _ k (fun e=>by have h9:=(Gg.o.lt k hk).1;have h8:k=g:=e;omega));obtain ⟨w4,UN⟩:∃ w4,w3.setCell ⟨g,1,none⟩ (.int .i64 (p+1+1))=w4:=⟨_,rfl⟩;rw [UN] at qE bu qO;have ql4:=qE.o.lt;have qz4:=bu.o.size;have Lo:=qO;go_wp2_with (at_builtin;refine au _ rfl _ _ 40 rfl w.heap.size 5 i0 _ 1 1 underlying40 fL ga f_ fZ rfl (by omega) u3 acc.length (vb acc) rfl (Lo.o.alloc _) (fun k=>k=w4.heap.size) (.slice (some ⟨w4.heap.size,0,none⟩) 1 1) 1 (vb [z]) rfl ((aj.new w4 _ _).row (n:=1) rfl (by unfold maxLen;omega) rfl) (It _) (by unfold maxLen;omega) (by omega) (by simp;omega) ?_);intro v' w5 aD hg bN cX;have pF:Hd (w5.ownsRow w.heap.size 5 1 v' (acc ++ [z]).length (vb (acc ++ [z]))):=zh (by simpa [vb] using aD);have wO:ay (fun k=>k=g∨w.heap.size≤k) w4 w5:=(zb.alloc _).trans (ay.of_grown (X:=fun k=>w.heap.size≤k) hg (fun b hb=>(qO.o.lt b hb).1)) (fun k hk h9=>.inr h9);have a8:Hd (ay (fun k=>k=g) w w5):=zh (bu.o.trans wO (fun k hk h9=>h9.elim id fun h9=>absurd hk (by omega)));have iG:Hd (aj w5 g 83 #[.string s,.int .i64 ((p+2:Nat):Int),.slice A l.length c,.slice R m d]):=zh ((qE.o.alloc _).grown hg (fun e=>cD qO.o qE.o (by decide) e.symm));clear aD hg bN cX wO Lo;go_wp2_with fail
            go_roundg (s.size+1 - (p+2))
            case measure=>omega
            case rel=>exact ⟨p+2,acc ++ [z],rfl,by omega,by omega,by simp;omega,pF,a8,iG,fH⟩
      have Zl:((x.toNat:Int) == 92)=false:=du C8
      have fH:Hd (bP at_ (s.data.toList.drop (p+1)) (p+1) (acc ++ [x])=r):=zh (by
        have h1:=HT.o;unfold bP at h1;rw [if_neg oa,if_neg sc,if_neg C8] at h1
        exact h1)
      clear HT;have Lo:=Gg;go_wp2_with (at_builtin;refine au _ rfl _ _ 40 rfl w.heap.size 5 i0 _ 1 1 underlying40 fL ga f_ fZ rfl (by omega) u3 acc.length (vb acc) rfl (Lo.o.alloc _) (fun k=>k=w3.heap.size) (.slice (some ⟨w3.heap.size,0,none⟩) 1 1) 1 (vb [x]) rfl ((aj.new w3 _ _).row (n:=1) rfl (by unfold maxLen;omega) rfl) (It _) (by unfold maxLen;omega) (by omega) (by simp;omega) ?_);intro v' w5 aD hg bN cX;have pF:Hd (w5.ownsRow w.heap.size 5 1 v' (acc ++ [x]).length (vb (acc ++ [x]))):=zh (by simpa [vb] using aD);have wO:ay (fun k=>k=g∨w.heap.size≤k) w3 w5:=(zb.alloc _).trans (ay.of_grown (X:=fun k=>w.heap.size≤k) hg (fun b hb=>(Gg.o.lt b hb).1)) (fun k hk h9=>.inr h9);have a8:Hd (ay (fun k=>k=g) w w5):=zh (be.o.trans wO (fun k hk h9=>h9.elim id fun h9=>absurd hk (by omega)));have iG:Hd (aj w5 g 83 #[.string s,.int .i64 ((p+1:Nat):Int),.slice A l.length c,.slice R m d]):=zh ((nF.o.alloc _).grown hg (fun e=>cD Gg.o nF.o (by decide) e.symm));clear aD hg bN cX wO Lo;go_wp2_with fail
      go_roundg (s.size+1 - (p+1))
      case measure=>omega
      case rel=>exact ⟨p+1,acc ++ [x],rfl,by omega,by omega,by simp;omega,pF,a8,iG,fH⟩
end
set_option maxRecDepth 100000
set_option maxHeartbeats 4000000
section
variable {w w':World} {base g at_:Nat} {s:ByteArray} {l:List Tk}
theorem I7 {r:List UInt8} (h:(r.headD 0=48∧1<(r.takeWhile dZ).length)∨200<(r.takeWhile dZ).length∨(∃ c ∈ (r.drop (r.takeWhile dZ).length).head?,ly c=true)):gl r=none:=if_pos h
theorem LM {r:List UInt8} (h:¬ ((r.headD 0=48∧1<(r.takeWhile dZ).length)∨200<(r.takeWhile dZ).length∨(∃ c ∈ (r.drop (r.takeWhile dZ).length).head?,ly c=true))):gl r=some (r.takeWhile dZ).length:=if_neg h
def PG (base:Nat) (w:World) (g:Nat) (s:ByteArray) (at_:Nat) (l:List Tk) (r:Option Nat) (e:Ending) (w':World):Prop:=
  Below base w w'∧match r with
  | none=>e = .panicked (EW at_)
  | some n=>e = .returned (.tuple #[])∧mK base w' g s (at_+n) (l ++ [⟨2,at_,at_+n,s.extract at_ (at_+n)⟩])
theorem zj (h:mK base w g s at_ l) (hl:l.length≤100000) (hs:s.size≤65536) (cX:at_<s.size) (ea:dZ (s[at_])=true) (iw:base≤w.heap.size) :
    Calls prog 114 #[.pointer (some ⟨g,0,none⟩)] w (PG base w g s at_ l (gl (s.data.toList.drop at_))):=by
  obtain ⟨A,c,R,m,d,xs,hm⟩:=h;have H:=zh hm;have dA:=hm.lo;have q1:=hm.blk.cell 1;simp at q1;have ql:=hm.blk.lt;(have U5:(at_:Int)<(s.size:Int):=by omega);(have uE:(s.size:Int)≤65536:=by omega);(have eN:s.data.toList.length=s.size:=by rw [Array.length_toList];rfl);obtain ⟨vd,LX⟩:∃ vd,s.data.toList.drop at_=vd:=⟨_,rfl⟩;obtain ⟨n,hn⟩:∃ n,(vd.takeWhile dZ).length=n:=⟨_,rfl⟩;(have GR:vd.length=s.size - at_:=by rw [← LX,List.length_drop,eN]);have OQ:n≤vd.length:=by rw [← hn];exact AY
  have Eb:∀ j,(hj:at_+j<s.size)→vd[j]'(by omega)=s[at_+j]:=fun j hj=>by
    subst LX;rw [List.getElem_drop,Array.getElem_toList];rfl
  have D7:1≤n:=by
    rw [← hn];exact (oZ (l:=vd) (m:=0) (Nat.zero_le _) (by omega)).1 (by rw [Eb 0 (by omega)];exact ea)
  have Z4:Hd (vd.headD 0=s[at_]):=zh (by
    rw [List.headD_eq_head?_getD,List.head?_eq_getElem?,List.getElem?_eq_getElem (by omega),Eb 0 (by omega)]
    rfl)
  have fM:Hd (∀ p,at_≤p→p≤at_+n→(hp:p<s.size)→(dZ (s[p])=true→p+1≤at_+n)∧(dZ (s[p])=false→p=at_+n)):=zh (fun p h1 h2 hp=>by
    have h3:=oZ (p:=dZ) (l:=vd) (m:=p - at_) (by omega) (by omega);rw [Eb (p - at_) (by omega),hn] at h3;(have e:at_+(p - at_)=p:=by omega);simp only [e] at h3
    exact ⟨fun h=>by have:=h3.1 h;omega,fun h=>by have:=h3.2 h;omega⟩)
  have ux:Hd ((hp:at_+n<s.size)→(vd.drop n).head? = some s[at_+n]):=zh (fun hp=>by
    rw [List.head?_drop,List.getElem?_eq_getElem (by omega),Eb n hp])
  have QU:Hd (¬ at_+n<s.size→(vd.drop n).head? = none):=zh (fun hp=>by
    rw [List.drop_eq_nil_of_le (by omega)];rfl)
  (have UT:at_+n≤s.size:=by omega);have C0:Hd ((vd.headD 0=48∧1<n)∨200<n∨(∃ c ∈ (vd.drop n).head?,ly c=true)→gl vd=none):=zh (fun h=>I7 (by rw [hn];exact h));have Vq:Hd (¬ ((vd.headD 0=48∧1<n)∨200<n∨(∃ c ∈ (vd.drop n).head?,ly c=true))→gl vd=some n):=zh (fun h=>(LM (by rw [hn];exact h)).trans (by rw [hn]));rw [LX];have cT:Hd (ay (fun k=>k=g) w w):=zh zb;have MU:=zh hm.blk;clear hm LX hn GR OQ Eb ea;go_enter func114,ntmps114;go_wp2_with fail;clear q1
  go_loopg [] (at_+n - at_) (fun f wr=>∃ (p:Nat),f=at_+n - p∧at_≤p∧p≤at_+n∧Hd (ay (fun k=>k=g) w wr)∧Hd (aj wr g 83 #[.string s,.int .i64 p,.slice A l.length c,.slice R m d]))
  case atStart=>exact ⟨at_,by omega,by omega,by omega,cT,MU⟩
  case round=>
    obtain ⟨p,rfl,r_,jM,HB,HK⟩:=hrel;(try rename World=>wr);have q0:=HK.o.cell 0;have q1:=HK.o.cell 1;simp at q0 q1;have y_:=HK.o.lt;(have D5:(p:Int)≤(s.size:Int):=by omega);by_cases hp:p<s.size
    case neg=>
      have HQ:Hd (p=at_+n):=zh (by omega);have RX:decide (p<s.size)=false:=decide_eq_false hp;go_wp2_with fail;refine wp_region_held_drew (S:=(fun w'=>w'.cell? ⟨g,0,none⟩=some (.string s)∧w'.cell? ⟨g,1,none⟩=some (.int .i64 p))) (by kernel_rfl) (by exact ⟨q0,q1⟩) (fun ac=>?_);refine bw ?_ ac;clear ac;rintro wa hb ac;refine aK 22 (by kernel_rfl) (fun aF=>?_);have jS:Hd (aj wa g 83 #[.string s,.int .i64 p,.slice A l.length c,.slice R m d]):=zh (HK.o.below hb y_);have a7:Hd (ay (fun k=>k=g) w wa):=zh (HB.o.then_ hb);have ox:g<wa.heap.size:=Nat.lt_of_lt_of_le y_ hb.size;clear hb;clear q0 q1;(iterate 11 (refine ao (v:=?_) aF (by decide) (fun _ _ _ h=>h) (Or.inl ⟨by rfl,?_⟩) (by assumption) ?_;rotate_left;(intro W aH;(try dsimp only at aH);go_simp;first | done | rfl);try simp only [Act.put,cr,cj,ch,UC,UB,VB]));iterate 10 (refine ao (v:=undef) aF (by decide) (fun _ _ _ h=>h) (Or.inr ⟨by rfl,rfl⟩) (by assumption) ?_;try simp only [Act.put,cr,cj,ch,UC,UB,VB])
      (refine ao (v:=?_) aF (by decide) (fun _ _ _ h=>h) (Or.inl ⟨by rfl,?_⟩) (by assumption) ?_;rotate_left;(intro W aH;(try dsimp only at aH);go_simp;first | done | rfl);try simp only [Act.put,cr,cj,ch,UC,UB,VB])
      refine bz ?_;clear aF;(obtain rfl:n=p - at_:=by have h9:=HQ.o;omega);(have he:at_+(p - at_)=p:=by omega);clear fM;replace ux:Hd ((hp:p<s.size)→(vd.drop (p - at_)).head? = some s[p]):=zh (fun hp=>by have h9:=ux.o (by omega);simp only [he] at h9;exact h9);replace QU:Hd (¬ p<s.size→(vd.drop (p - at_)).head? = none):=zh (fun hp=>QU.o (by omega));go_wp2_with fail;have q0:=jS.o.cell 0;have q1:=jS.o.cell 1;simp at q0 q1;(have OT:at_≤p:=by omega);have Um:=zh he;clear he;refine wp_region_held_drew (S:=(fun w'=>w'.cell? ⟨g,0,none⟩=some (.string s)∧w'.cell? ⟨g,1,none⟩=some (.int .i64 p))) (by kernel_rfl) (by exact ⟨q0,q1⟩) (fun ac=>?_);refine bw ?_ ac;clear ac;rintro wc hb ac;refine aK 11 (by kernel_rfl) (fun aF=>?_);have lT:Hd (aj wc g 83 #[.string s,.int .i64 p,.slice A l.length c,.slice R m d]):=zh (jS.o.below hb ox);have aE:Hd (ay (fun k=>k=g) w wc):=zh (a7.o.then_ hb);have iQ:g<wc.heap.size:=Nat.lt_of_lt_of_le ox hb.size;clear hb;clear q0 q1;(iterate 11 (refine ao (v:=?_) aF (by decide) (fun _ _ _ h=>h) (Or.inl ⟨by rfl,?_⟩) (by assumption) ?_;rotate_left;(intro W aH;(try dsimp only at aH);go_simp;first | done | rfl);try simp only [Act.put,cr,cj,ch,UC,UB,VB]));refine bz ?_;clear aF;obtain ⟨tx,DW⟩:∃ tx,s.extract at_ p=tx:=⟨_,rfl⟩;(have je:tx.size=p - at_:=by rw [← DW,ByteArray.size_extract];omega);(have htz:0<tx.size:=by omega);obtain ⟨c0,JE⟩:∃ c0,tx[0]=c0:=⟨_,rfl⟩;have Uo:Hd (vd.headD 0=c0):=zh (by rw [Z4.o,← JE];subst DW;simp [ByteArray.getElem_extract]);have fH:=zh DW;(have mz:decide (200<tx.size)=decide (200<p - at_):=by rw [je]);(have mA:decide (1<tx.size)=decide (1<p - at_):=by rw [je]);clear je;go_wp2_with fail;rw [DW];clear DW;have q0:=lT.o.cell 0;have q1:=lT.o.cell 1;simp at q0 q1;by_cases O_:c0=48
      · subst O_
        by_cases Md:1<p - at_
        · rw [decide_eq_true Md] at mA
          have r_:1<tx.size:=of_decide_eq_true mA;(have D4:(1:Int)<(tx.size:Int):=by omega);have O5:decide ((1:Int)<(tx.size:Int))=true:=decide_eq_true D4;refine wp_region_held_drew (S:=(fun w'=>w'.cell? ⟨g,0,none⟩=some (.string s)∧w'.cell? ⟨g,1,none⟩=some (.int .i64 p))) (by kernel_rfl) (by exact ⟨q0,q1⟩) (fun ac=>?_);refine bw ?_ ac;clear ac;rintro wd hb ac;refine aK 37 (by kernel_rfl) (fun aF=>?_);have nF:Hd (aj wd g 83 #[.string s,.int .i64 p,.slice A l.length c,.slice R m d]):=zh (lT.o.below hb iQ);have be:Hd (ay (fun k=>k=g) w wd):=zh (aE.o.then_ hb);have pt:g<wd.heap.size:=Nat.lt_of_lt_of_le iQ hb.size;clear hb;clear q0 q1;(iterate 9 (refine ao (v:=?_) aF (by decide) (fun _ _ _ h=>h) (Or.inl ⟨by rfl,?_⟩) (by assumption) ?_;rotate_left;(intro W aH;(try dsimp only at aH);go_simp;first | done | rfl);try simp only [Act.put,cr,cj,ch,UC,UB,VB]));(iterate 3 (refine ao (v:=undef) aF (by decide) (fun _ _ _ h=>h) (Or.inr ⟨by rfl,rfl⟩) (by assumption) ?_;try simp only [Act.put,cr,cj,ch,UC,UB,VB]));(iterate 2 (refine ao (v:=?_) aF (by decide) (fun _ _ _ h=>h) (Or.inl ⟨by rfl,?_⟩) (by assumption) ?_;rotate_left;(intro W aH;(try dsimp only at aH);go_simp;first | done | rfl);try simp only [Act.put,cr,cj,ch,UC,UB,VB]));iterate 22 (refine ao (v:=undef) aF (by decide) (fun _ _ _ h=>h) (Or.inr ⟨by rfl,rfl⟩) (by assumption) ?_;try simp only [Act.put,cr,cj,ch,UC,UB,VB])
          (refine ao (v:=?_) aF (by decide) (fun _ _ _ h=>h) (Or.inl ⟨by rfl,?_⟩) (by assumption) ?_;rotate_left;(intro W aH;(try dsimp only at aH);go_simp;first | done | rfl);try simp only [Act.put,cr,cj,ch,UC,UB,VB])
          refine bz ?_;clear aF;go_wp2_with fail;refine dQ.mono ?_;rintro e w1 ⟨rfl,hw⟩;subst w1;go_wp2_with fail;have Ax:=C0.o (.inl ⟨Uo.o,Md⟩);rw [Ax];exact ⟨rfl,cH be.o dA iw,rfl⟩
        rw [decide_eq_false Md] at mA;rw [decide_eq_false (show ¬ 200<p - at_ by omega)] at mz;have r_:¬ 1<tx.size:=of_decide_eq_false mA;(have D4:¬ (1:Int)<(tx.size:Int):=by omega);have O5:decide ((1:Int)<(tx.size:Int))=false:=decide_eq_false D4;have BK:¬ 200<tx.size:=of_decide_eq_false mz;(have k9:¬ (200:Int)<(tx.size:Int):=by omega);have vC:decide ((200:Int)<(tx.size:Int))=false:=decide_eq_false k9;have xZ:=hp;have Ns:decide (p<s.size)=false:=decide_eq_false xZ;have CY:=zh xZ;refine wp_region_held_drew (S:=(fun w'=>w'.cell? ⟨g,0,none⟩=some (.string s)∧w'.cell? ⟨g,1,none⟩=some (.int .i64 p))) (by kernel_rfl) (by exact ⟨q0,q1⟩) (fun ac=>?_);refine bw ?_ ac;clear ac;rintro wd hb ac;refine aK 37 (by kernel_rfl) (fun aF=>?_);have nF:Hd (aj wd g 83 #[.string s,.int .i64 p,.slice A l.length c,.slice R m d]):=zh (lT.o.below hb iQ);have be:Hd (ay (fun k=>k=g) w wd):=zh (aE.o.then_ hb);have pt:g<wd.heap.size:=Nat.lt_of_lt_of_le iQ hb.size;clear hb;clear q0 q1;(iterate 14 (refine ao (v:=?_) aF (by decide) (fun _ _ _ h=>h) (Or.inl ⟨by rfl,?_⟩) (by assumption) ?_;rotate_left;(intro W aH;(try dsimp only at aH);go_simp;first | done | rfl);try simp only [Act.put,cr,cj,ch,UC,UB,VB]));(iterate 11 (refine ao (v:=?_) aF (by decide) (fun _ _ _ h=>h) (Or.inl ⟨by rfl,?_⟩) (by assumption) ?_;rotate_left;(intro W aH;(try dsimp only at aH);go_simp;first | done | rfl);try simp only [Act.put,cr,cj,ch,UC,UB,VB]));(iterate 10 (refine ao (v:=undef) aF (by decide) (fun _ _ _ h=>h) (Or.inr ⟨by rfl,rfl⟩) (by assumption) ?_;try simp only [Act.put,cr,cj,ch,UC,UB,VB]))
        (iterate 2 (refine ao (v:=?_) aF (by decide) (fun _ _ _ h=>h) (Or.inl ⟨by rfl,?_⟩) (by assumption) ?_;rotate_left;(intro W aH;(try dsimp only at aH);go_simp;first | done | rfl);try simp only [Act.put,cr,cj,ch,UC,UB,VB]));refine bz ?_;clear aF;have Ax:=zh (Vq.o (by rintro (h | h | ⟨x,hx,-⟩);exact Md h.2;omega;rw [QU.o xZ] at hx;cases hx));go_wp2_with fail;refine (gY (base:=base) (at_:=p) ⟨_,_,_,_,_,_,H.o.but be.o nF.o (by omega)⟩ (by omega)).mono ?_;rintro e w4 ⟨rfl,hS,dB⟩;have iW:=zh hS;have bu:=zh ((cH be.o dA iw).trans dB);clear hS dB;go_wp2_with fail
        go_end0
        refine ⟨bu.o,?_⟩;rw [Ax.o];refine ⟨rfl,?_⟩;rw [Um.o,show ((at_:Int)+((p - at_:Nat):Int))=(p:Int) from by omega,fH.o];exact iW.o
      have f48:((c0.toNat:Int) == 48)=false:=du O_;have Yk:Hd (¬ c0=48):=zh O_;by_cases zJ:200<p - at_
      · rw [decide_eq_true zJ] at mz
        have BK:200<tx.size:=of_decide_eq_true mz;(have k9:(200:Int)<(tx.size:Int):=by omega);have vC:decide ((200:Int)<(tx.size:Int))=true:=decide_eq_true k9;refine wp_region_held_drew (S:=(fun w'=>w'.cell? ⟨g,0,none⟩=some (.string s)∧w'.cell? ⟨g,1,none⟩=some (.int .i64 p))) (by kernel_rfl) (by exact ⟨q0,q1⟩) (fun ac=>?_);refine bw ?_ ac;clear ac;rintro wd hb ac;refine aK 37 (by kernel_rfl) (fun aF=>?_);have nF:Hd (aj wd g 83 #[.string s,.int .i64 p,.slice A l.length c,.slice R m d]):=zh (lT.o.below hb iQ);have be:Hd (ay (fun k=>k=g) w wd):=zh (aE.o.then_ hb);have pt:g<wd.heap.size:=Nat.lt_of_lt_of_le iQ hb.size;clear hb;clear q0 q1;(iterate 4 (refine ao (v:=?_) aF (by decide) (fun _ _ _ h=>h) (Or.inl ⟨by rfl,?_⟩) (by assumption) ?_;rotate_left;(intro W aH;(try dsimp only at aH);go_simp;first | done | rfl);try simp only [Act.put,cr,cj,ch,UC,UB,VB]));(iterate 3 (refine ao (v:=undef) aF (by decide) (fun _ _ _ h=>h) (Or.inr ⟨by rfl,rfl⟩) (by assumption) ?_;try simp only [Act.put,cr,cj,ch,UC,UB,VB]));(iterate 7 (refine ao (v:=?_) aF (by decide) (fun _ _ _ h=>h) (Or.inl ⟨by rfl,?_⟩) (by assumption) ?_;rotate_left;(intro W aH;(try dsimp only at aH);go_simp;first | done | rfl);try simp only [Act.put,cr,cj,ch,UC,UB,VB]));iterate 22 (refine ao (v:=undef) aF (by decide) (fun _ _ _ h=>h) (Or.inr ⟨by rfl,rfl⟩) (by assumption) ?_;try simp only [Act.put,cr,cj,ch,UC,UB,VB])
        (refine ao (v:=?_) aF (by decide) (fun _ _ _ h=>h) (Or.inl ⟨by rfl,?_⟩) (by assumption) ?_;rotate_left;(intro W aH;(try dsimp only at aH);go_simp;first | done | rfl);try simp only [Act.put,cr,cj,ch,UC,UB,VB])
        refine bz ?_;clear aF;go_wp2_with fail;refine dQ.mono ?_;rintro e w1 ⟨rfl,hw⟩;subst w1;go_wp2_with fail;have Ax:=C0.o (.inr (.inl zJ));rw [Ax];exact ⟨rfl,cH be.o dA iw,rfl⟩
      rw [decide_eq_false zJ] at mz;have BK:¬ 200<tx.size:=of_decide_eq_false mz;(have k9:¬ (200:Int)<(tx.size:Int):=by omega);have vC:decide ((200:Int)<(tx.size:Int))=false:=decide_eq_false k9;have xZ:=hp;have Ns:decide (p<s.size)=false:=decide_eq_false xZ;have CY:=zh xZ;refine wp_region_held_drew (S:=(fun w'=>w'.cell? ⟨g,0,none⟩=some (.string s)∧w'.cell? ⟨g,1,none⟩=some (.int .i64 p))) (by kernel_rfl) (by exact ⟨q0,q1⟩) (fun ac=>?_);refine bw ?_ ac;clear ac;rintro wd hb ac;refine aK 37 (by kernel_rfl) (fun aF=>?_);have nF:Hd (aj wd g 83 #[.string s,.int .i64 p,.slice A l.length c,.slice R m d]):=zh (lT.o.below hb iQ);have be:Hd (ay (fun k=>k=g) w wd):=zh (aE.o.then_ hb);have pt:g<wd.heap.size:=Nat.lt_of_lt_of_le iQ hb.size;clear hb;clear q0 q1;(iterate 4 (refine ao (v:=?_) aF (by decide) (fun _ _ _ h=>h) (Or.inl ⟨by rfl,?_⟩) (by assumption) ?_;rotate_left;(intro W aH;(try dsimp only at aH);go_simp;first | done | rfl);try simp only [Act.put,cr,cj,ch,UC,UB,VB]));(iterate 3 (refine ao (v:=undef) aF (by decide) (fun _ _ _ h=>h) (Or.inr ⟨by rfl,rfl⟩) (by assumption) ?_;try simp only [Act.put,cr,cj,ch,UC,UB,VB]));(iterate 7 (refine ao (v:=?_) aF (by decide) (fun _ _ _ h=>h) (Or.inl ⟨by rfl,?_⟩) (by assumption) ?_;rotate_left;(intro W aH;(try dsimp only at aH);go_simp;first | done | rfl);try simp only [Act.put,cr,cj,ch,UC,UB,VB]));(iterate 11 (refine ao (v:=?_) aF (by decide) (fun _ _ _ h=>h) (Or.inl ⟨by rfl,?_⟩) (by assumption) ?_;rotate_left;(intro W aH;(try dsimp only at aH);go_simp;first | done | rfl);try simp only [Act.put,cr,cj,ch,UC,UB,VB]))
      (iterate 10 (refine ao (v:=undef) aF (by decide) (fun _ _ _ h=>h) (Or.inr ⟨by rfl,rfl⟩) (by assumption) ?_;try simp only [Act.put,cr,cj,ch,UC,UB,VB]));(iterate 2 (refine ao (v:=?_) aF (by decide) (fun _ _ _ h=>h) (Or.inl ⟨by rfl,?_⟩) (by assumption) ?_;rotate_left;(intro W aH;(try dsimp only at aH);go_simp;first | done | rfl);try simp only [Act.put,cr,cj,ch,UC,UB,VB]));refine bz ?_;clear aF;have Ax:=zh (Vq.o (by rintro (h | h | ⟨x,hx,-⟩);exact Yk.o (Uo.o.symm.trans h.1);exact zJ h;rw [QU.o xZ] at hx;cases hx));go_wp2_with fail;refine (gY (base:=base) (at_:=p) ⟨_,_,_,_,_,_,H.o.but be.o nF.o (by omega)⟩ (by omega)).mono ?_;rintro e w4 ⟨rfl,hS,dB⟩;have iW:=zh hS;have bu:=zh ((cH be.o dA iw).trans dB);clear hS dB;go_wp2_with fail
      go_end0
      refine ⟨bu.o,?_⟩;rw [Ax.o];refine ⟨rfl,?_⟩;rw [Um.o,show ((at_:Int)+((p - at_:Nat):Int))=(p:Int) from by omega,fH.o];exact iW.o
    case pos=>
      (have fs:(p:Int)<(s.size:Int):=by omega);have RX:decide (p<s.size)=true:=decide_eq_true hp;obtain ⟨x0,GN⟩:∃ x,s[p]=x:=⟨_,rfl⟩;have uw:=zh (fM.o p r_ jM hp);rw [GN] at uw;go_wp2_with fail;by_cases pe:gd x0.toNat=true
      case pos=>
        refine wp_region_held_drew (S:=(fun w'=>w'.cell? ⟨g,0,none⟩=some (.string s)∧w'.cell? ⟨g,1,none⟩=some (.int .i64 p))) (by kernel_rfl) (by exact ⟨q0,q1⟩) (fun ac=>?_);refine bw ?_ ac;clear ac;rintro wa hb ac;refine aK 22 (by kernel_rfl) (fun aF=>?_);have jS:Hd (aj wa g 83 #[.string s,.int .i64 p,.slice A l.length c,.slice R m d]):=zh (HK.o.below hb y_);have a7:Hd (ay (fun k=>k=g) w wa):=zh (HB.o.then_ hb);have ox:g<wa.heap.size:=Nat.lt_of_lt_of_le y_ hb.size;clear hb;clear q0 q1;(iterate 20 (refine ao (v:=?_) aF (by decide) (fun _ _ _ h=>h) (Or.inl ⟨by rfl,?_⟩) (by assumption) ?_;rotate_left;(intro W aH;(try dsimp only at aH);go_simp;first | done | rfl);try simp only [Act.put,cr,cj,ch,UC,UB,VB]));refine fa (by kernel_rfl) (fun K hK=>?_);go_simp
        go_at_call 113
        refine lM.mono ?_;rintro e w1 ⟨rfl,hw⟩;subst w1;rw [pe];refine hK.out _ _ ac (fun ac=>?_);clear hK K;try simp only [Act.put,cr,cj,ch,UC,UB,VB]
        (refine ao (v:=?_) aF (by decide) (fun _ _ _ h=>h) (Or.inl ⟨by rfl,?_⟩) (by assumption) ?_;rotate_left;(intro W aH;(try dsimp only at aH);go_simp;first | done | rfl);try simp only [Act.put,cr,cj,ch,UC,UB,VB])
        refine bz ?_;clear aF;have q0:=jS.o.cell 0;have q1:=jS.o.cell 1;simp at q0 q1;have qf:=jS.o.frozen;have Rj:=uw.o.1 pe;have lT:Hd (aj (wa.setCell ⟨g,1,none⟩ (.int .i64 (p+1))) g 83 #[.string s,.int .i64 ((p+1:Nat):Int),.slice A l.length c,.slice R m d]):=zh (by simpa using jS.o.set_ 1 (.int .i64 (p+1)));have aE:Hd (ay (fun k=>k=g) w (wa.setCell ⟨g,1,none⟩ (.int .i64 (p+1)))):=zh (a7.o.set_ (p:=⟨g,1,none⟩) (.inr rfl) _);go_wp2_with fail
        go_roundg (at_+n - (p+1))
        case measure=>omega
        case rel=>exact ⟨p+1,rfl,by omega,by omega,aE,lT⟩
      case neg=>
        replace pe:=Bool.eq_false_iff.2 pe;have HQ:Hd (p=at_+n):=zh (uw.o.2 pe);refine wp_region_held_drew (S:=(fun w'=>w'.cell? ⟨g,0,none⟩=some (.string s)∧w'.cell? ⟨g,1,none⟩=some (.int .i64 p))) (by kernel_rfl) (by exact ⟨q0,q1⟩) (fun ac=>?_);refine bw ?_ ac;clear ac;rintro wa hb ac;refine aK 22 (by kernel_rfl) (fun aF=>?_);have jS:Hd (aj wa g 83 #[.string s,.int .i64 p,.slice A l.length c,.slice R m d]):=zh (HK.o.below hb y_);have a7:Hd (ay (fun k=>k=g) w wa):=zh (HB.o.then_ hb);have ox:g<wa.heap.size:=Nat.lt_of_lt_of_le y_ hb.size;clear hb;clear q0 q1;(iterate 20 (refine ao (v:=?_) aF (by decide) (fun _ _ _ h=>h) (Or.inl ⟨by rfl,?_⟩) (by assumption) ?_;rotate_left;(intro W aH;(try dsimp only at aH);go_simp;first | done | rfl);try simp only [Act.put,cr,cj,ch,UC,UB,VB]));refine fa (by kernel_rfl) (fun K hK=>?_);go_simp
        go_at_call 113
        refine lM.mono ?_;rintro e w1 ⟨rfl,hw⟩;subst w1;rw [pe];refine hK.out _ _ ac (fun ac=>?_);clear hK K;try simp only [Act.put,cr,cj,ch,UC,UB,VB]
        (refine ao (v:=?_) aF (by decide) (fun _ _ _ h=>h) (Or.inl ⟨by rfl,?_⟩) (by assumption) ?_;rotate_left;(intro W aH;(try dsimp only at aH);go_simp;first | done | rfl);try simp only [Act.put,cr,cj,ch,UC,UB,VB])
        refine bz ?_;clear aF;clear RX fs GN uw;(obtain rfl:n=p - at_:=by have h9:=HQ.o;omega);(have he:at_+(p - at_)=p:=by omega);clear fM;replace ux:Hd ((hp:p<s.size)→(vd.drop (p - at_)).head? = some s[p]):=zh (fun hp=>by have h9:=ux.o (by omega);simp only [he] at h9;exact h9);replace QU:Hd (¬ p<s.size→(vd.drop (p - at_)).head? = none):=zh (fun hp=>QU.o (by omega));go_wp2_with fail;have q0:=jS.o.cell 0;have q1:=jS.o.cell 1;simp at q0 q1;(have OT:at_≤p:=by omega);have Um:=zh he;clear he;refine wp_region_held_drew (S:=(fun w'=>w'.cell? ⟨g,0,none⟩=some (.string s)∧w'.cell? ⟨g,1,none⟩=some (.int .i64 p))) (by kernel_rfl) (by exact ⟨q0,q1⟩) (fun ac=>?_);refine bw ?_ ac;clear ac;rintro wc hb ac;refine aK 11 (by kernel_rfl) (fun aF=>?_);have lT:Hd (aj wc g 83 #[.string s,.int .i64 p,.slice A l.length c,.slice R m d]):=zh (jS.o.below hb ox);have aE:Hd (ay (fun k=>k=g) w wc):=zh (a7.o.then_ hb);have iQ:g<wc.heap.size:=Nat.lt_of_lt_of_le ox hb.size;clear hb;clear q0 q1;(iterate 11 (refine ao (v:=?_) aF (by decide) (fun _ _ _ h=>h) (Or.inl ⟨by rfl,?_⟩) (by assumption) ?_;rotate_left;(intro W aH;(try dsimp only at aH);go_simp;first | done | rfl);try simp only [Act.put,cr,cj,ch,UC,UB,VB]));refine bz ?_;clear aF;obtain ⟨tx,DW⟩:∃ tx,s.extract at_ p=tx:=⟨_,rfl⟩;(have je:tx.size=p - at_:=by rw [← DW,ByteArray.size_extract];omega);(have htz:0<tx.size:=by omega);obtain ⟨c0,JE⟩:∃ c0,tx[0]=c0:=⟨_,rfl⟩;have Uo:Hd (vd.headD 0=c0):=zh (by rw [Z4.o,← JE];subst DW;simp [ByteArray.getElem_extract]);have fH:=zh DW;(have mz:decide (200<tx.size)=decide (200<p - at_):=by rw [je]);(have mA:decide (1<tx.size)=decide (1<p - at_):=by rw [je]);clear je;go_wp2_with fail;rw [DW];clear DW;have q0:=lT.o.cell 0;have q1:=lT.o.cell 1;simp at q0 q1;by_cases O_:c0=48
        · subst O_
          by_cases Md:1<p - at_
          · rw [decide_eq_true Md] at mA
            have r_:1<tx.size:=of_decide_eq_true mA;(have D4:(1:Int)<(tx.size:Int):=by omega);have O5:decide ((1:Int)<(tx.size:Int))=true:=decide_eq_true D4;refine wp_region_held_drew (S:=(fun w'=>w'.cell? ⟨g,0,none⟩=some (.string s)∧w'.cell? ⟨g,1,none⟩=some (.int .i64 p))) (by kernel_rfl) (by exact ⟨q0,q1⟩) (fun ac=>?_);refine bw ?_ ac;clear ac;rintro wd hb ac;refine aK 37 (by kernel_rfl) (fun aF=>?_);have nF:Hd (aj wd g 83 #[.string s,.int .i64 p,.slice A l.length c,.slice R m d]):=zh (lT.o.below hb iQ);have be:Hd (ay (fun k=>k=g) w wd):=zh (aE.o.then_ hb);have pt:g<wd.heap.size:=Nat.lt_of_lt_of_le iQ hb.size;clear hb;clear q0 q1;(iterate 9 (refine ao (v:=?_) aF (by decide) (fun _ _ _ h=>h) (Or.inl ⟨by rfl,?_⟩) (by assumption) ?_;rotate_left;(intro W aH;(try dsimp only at aH);go_simp;first | done | rfl);try simp only [Act.put,cr,cj,ch,UC,UB,VB]));(iterate 3 (refine ao (v:=undef) aF (by decide) (fun _ _ _ h=>h) (Or.inr ⟨by rfl,rfl⟩) (by assumption) ?_;try simp only [Act.put,cr,cj,ch,UC,UB,VB]));(iterate 2 (refine ao (v:=?_) aF (by decide) (fun _ _ _ h=>h) (Or.inl ⟨by rfl,?_⟩) (by assumption) ?_;rotate_left;(intro W aH;(try dsimp only at aH);go_simp;first | done | rfl);try simp only [Act.put,cr,cj,ch,UC,UB,VB]));iterate 22 (refine ao (v:=undef) aF (by decide) (fun _ _ _ h=>h) (Or.inr ⟨by rfl,rfl⟩) (by assumption) ?_;try simp only [Act.put,cr,cj,ch,UC,UB,VB])
            (refine ao (v:=?_) aF (by decide) (fun _ _ _ h=>h) (Or.inl ⟨by rfl,?_⟩) (by assumption) ?_;rotate_left;(intro W aH;(try dsimp only at aH);go_simp;first | done | rfl);try simp only [Act.put,cr,cj,ch,UC,UB,VB])
            refine bz ?_;clear aF;go_wp2_with fail;refine dQ.mono ?_;rintro e w1 ⟨rfl,hw⟩;subst w1;go_wp2_with fail;have Ax:=C0.o (.inl ⟨Uo.o,Md⟩);rw [Ax];exact ⟨rfl,cH be.o dA iw,rfl⟩
          rw [decide_eq_false Md] at mA;rw [decide_eq_false (show ¬ 200<p - at_ by omega)] at mz;have r_:¬ 1<tx.size:=of_decide_eq_false mA;(have D4:¬ (1:Int)<(tx.size:Int):=by omega);have O5:decide ((1:Int)<(tx.size:Int))=false:=decide_eq_false D4;have BK:¬ 200<tx.size:=of_decide_eq_false mz;(have k9:¬ (200:Int)<(tx.size:Int):=by omega);have vC:decide ((200:Int)<(tx.size:Int))=false:=decide_eq_false k9;have xZ:=hp;have Ns:decide (p<s.size)=true:=decide_eq_true xZ;obtain ⟨x,hx⟩:∃ x,s[p]=x:=⟨_,rfl⟩;have HX:=zh hx;(have Nj:(p:Int)<(s.size:Int):=by omega);by_cases sA:d8 x.toNat=true
          case pos=>
            refine wp_region_held_drew (S:=(fun w'=>w'.cell? ⟨g,0,none⟩=some (.string s)∧w'.cell? ⟨g,1,none⟩=some (.int .i64 p))) (by kernel_rfl) (by exact ⟨q0,q1⟩) (fun ac=>?_);refine bw ?_ ac;clear ac;rintro wd hb ac;refine aK 37 (by kernel_rfl) (fun aF=>?_);have nF:Hd (aj wd g 83 #[.string s,.int .i64 p,.slice A l.length c,.slice R m d]):=zh (lT.o.below hb iQ);have be:Hd (ay (fun k=>k=g) w wd):=zh (aE.o.then_ hb);have pt:g<wd.heap.size:=Nat.lt_of_lt_of_le iQ hb.size;clear hb;clear q0 q1;(iterate 14 (refine ao (v:=?_) aF (by decide) (fun _ _ _ h=>h) (Or.inl ⟨by rfl,?_⟩) (by assumption) ?_;rotate_left;(intro W aH;(try dsimp only at aH);go_simp;first | done | rfl);try simp only [Act.put,cr,cj,ch,UC,UB,VB]));(iterate 20 (refine ao (v:=?_) aF (by decide) (fun _ _ _ h=>h) (Or.inl ⟨by rfl,?_⟩) (by assumption) ?_;rotate_left;(intro W aH;(try dsimp only at aH);go_simp;first | done | rfl);try simp only [Act.put,cr,cj,ch,UC,UB,VB]));refine fa (by kernel_rfl) (fun K hK=>?_);go_simp
            go_at_call 144
            refine jc.mono ?_;rintro e w1 ⟨rfl,hw⟩;subst w1;rw [sA];refine hK.out _ _ ac (fun ac=>?_);clear hK K;(try simp only [Act.put,cr,cj,ch,UC,UB,VB]);(iterate 2 (refine ao (v:=?_) aF (by decide) (fun _ _ _ h=>h) (Or.inl ⟨by rfl,?_⟩) (by assumption) ?_;rotate_left;(intro W aH;(try dsimp only at aH);go_simp;first | done | rfl);try simp only [Act.put,cr,cj,ch,UC,UB,VB]));refine bz ?_;clear aF;go_wp2_with fail;refine dQ.mono ?_;rintro e w1 ⟨rfl,hw⟩;subst w1;go_wp2_with fail;have Ax:=C0.o (.inr (.inr ⟨x,by rw [ux.o xZ,HX.o];rfl,sA⟩));rw [Ax];exact ⟨rfl,cH be.o dA iw,rfl⟩
          case neg=>
            replace sA:=Bool.eq_false_iff.2 sA;refine wp_region_held_drew (S:=(fun w'=>w'.cell? ⟨g,0,none⟩=some (.string s)∧w'.cell? ⟨g,1,none⟩=some (.int .i64 p))) (by kernel_rfl) (by exact ⟨q0,q1⟩) (fun ac=>?_);refine bw ?_ ac;clear ac;rintro wd hb ac;refine aK 37 (by kernel_rfl) (fun aF=>?_);have nF:Hd (aj wd g 83 #[.string s,.int .i64 p,.slice A l.length c,.slice R m d]):=zh (lT.o.below hb iQ);have be:Hd (ay (fun k=>k=g) w wd):=zh (aE.o.then_ hb);have pt:g<wd.heap.size:=Nat.lt_of_lt_of_le iQ hb.size;clear hb;clear q0 q1;(iterate 14 (refine ao (v:=?_) aF (by decide) (fun _ _ _ h=>h) (Or.inl ⟨by rfl,?_⟩) (by assumption) ?_;rotate_left;(intro W aH;(try dsimp only at aH);go_simp;first | done | rfl);try simp only [Act.put,cr,cj,ch,UC,UB,VB]));(iterate 20 (refine ao (v:=?_) aF (by decide) (fun _ _ _ h=>h) (Or.inl ⟨by rfl,?_⟩) (by assumption) ?_;rotate_left;(intro W aH;(try dsimp only at aH);go_simp;first | done | rfl);try simp only [Act.put,cr,cj,ch,UC,UB,VB]));refine fa (by kernel_rfl) (fun K hK=>?_);go_simp
            go_at_call 144
            refine jc.mono ?_;rintro e w1 ⟨rfl,hw⟩;subst w1;rw [sA];refine hK.out _ _ ac (fun ac=>?_);clear hK K;(try simp only [Act.put,cr,cj,ch,UC,UB,VB]);(iterate 2 (refine ao (v:=?_) aF (by decide) (fun _ _ _ h=>h) (Or.inl ⟨by rfl,?_⟩) (by assumption) ?_;rotate_left;(intro W aH;(try dsimp only at aH);go_simp;first | done | rfl);try simp only [Act.put,cr,cj,ch,UC,UB,VB]));refine bz ?_;clear aF;have Ax:=zh (Vq.o (by rintro (h | h | ⟨y,hy,hz⟩);exact Md h.2;omega;rw [ux.o xZ,HX.o] at hy;cases hy;exact absurd (sA.symm.trans hz) (by decide)));go_wp2_with fail;refine (gY (base:=base) (at_:=p) ⟨_,_,_,_,_,_,H.o.but be.o nF.o (by omega)⟩ (by omega)).mono ?_;rintro e w4 ⟨rfl,hS,dB⟩;have iW:=zh hS;have bu:=zh ((cH be.o dA iw).trans dB);clear hS dB;go_wp2_with fail
            go_end0
            refine ⟨bu.o,?_⟩;rw [Ax.o];refine ⟨rfl,?_⟩;rw [Um.o,show ((at_:Int)+((p - at_:Nat):Int))=(p:Int) from by omega,fH.o];exact iW.o
        have f48:((c0.toNat:Int) == 48)=false:=du O_;have Yk:Hd (¬ c0=48):=zh O_;by_cases zJ:200<p - at_
        · rw [decide_eq_true zJ] at mz
          have BK:200<tx.size:=of_decide_eq_true mz;(have k9:(200:Int)<(tx.size:Int):=by omega);have vC:decide ((200:Int)<(tx.size:Int))=true:=decide_eq_true k9;refine wp_region_held_drew (S:=(fun w'=>w'.cell? ⟨g,0,none⟩=some (.string s)∧w'.cell? ⟨g,1,none⟩=some (.int .i64 p))) (by kernel_rfl) (by exact ⟨q0,q1⟩) (fun ac=>?_);refine bw ?_ ac;clear ac;rintro wd hb ac;refine aK 37 (by kernel_rfl) (fun aF=>?_);have nF:Hd (aj wd g 83 #[.string s,.int .i64 p,.slice A l.length c,.slice R m d]):=zh (lT.o.below hb iQ);have be:Hd (ay (fun k=>k=g) w wd):=zh (aE.o.then_ hb);have pt:g<wd.heap.size:=Nat.lt_of_lt_of_le iQ hb.size;clear hb;clear q0 q1;(iterate 4 (refine ao (v:=?_) aF (by decide) (fun _ _ _ h=>h) (Or.inl ⟨by rfl,?_⟩) (by assumption) ?_;rotate_left;(intro W aH;(try dsimp only at aH);go_simp;first | done | rfl);try simp only [Act.put,cr,cj,ch,UC,UB,VB]));(iterate 3 (refine ao (v:=undef) aF (by decide) (fun _ _ _ h=>h) (Or.inr ⟨by rfl,rfl⟩) (by assumption) ?_;try simp only [Act.put,cr,cj,ch,UC,UB,VB]));(iterate 7 (refine ao (v:=?_) aF (by decide) (fun _ _ _ h=>h) (Or.inl ⟨by rfl,?_⟩) (by assumption) ?_;rotate_left;(intro W aH;(try dsimp only at aH);go_simp;first | done | rfl);try simp only [Act.put,cr,cj,ch,UC,UB,VB]));iterate 22 (refine ao (v:=undef) aF (by decide) (fun _ _ _ h=>h) (Or.inr ⟨by rfl,rfl⟩) (by assumption) ?_;try simp only [Act.put,cr,cj,ch,UC,UB,VB])
          (refine ao (v:=?_) aF (by decide) (fun _ _ _ h=>h) (Or.inl ⟨by rfl,?_⟩) (by assumption) ?_;rotate_left;(intro W aH;(try dsimp only at aH);go_simp;first | done | rfl);try simp only [Act.put,cr,cj,ch,UC,UB,VB])
          refine bz ?_;clear aF;go_wp2_with fail;refine dQ.mono ?_;rintro e w1 ⟨rfl,hw⟩;subst w1;go_wp2_with fail;have Ax:=C0.o (.inr (.inl zJ));rw [Ax];exact ⟨rfl,cH be.o dA iw,rfl⟩
        rw [decide_eq_false zJ] at mz;have BK:¬ 200<tx.size:=of_decide_eq_false mz;(have k9:¬ (200:Int)<(tx.size:Int):=by omega);have vC:decide ((200:Int)<(tx.size:Int))=false:=decide_eq_false k9;have xZ:=hp;have Ns:decide (p<s.size)=true:=decide_eq_true xZ;obtain ⟨x,hx⟩:∃ x,s[p]=x:=⟨_,rfl⟩;have HX:=zh hx;(have Nj:(p:Int)<(s.size:Int):=by omega);by_cases sA:d8 x.toNat=true
        case pos=>
          refine wp_region_held_drew (S:=(fun w'=>w'.cell? ⟨g,0,none⟩=some (.string s)∧w'.cell? ⟨g,1,none⟩=some (.int .i64 p))) (by kernel_rfl) (by exact ⟨q0,q1⟩) (fun ac=>?_);refine bw ?_ ac;clear ac;rintro wd hb ac;refine aK 37 (by kernel_rfl) (fun aF=>?_);have nF:Hd (aj wd g 83 #[.string s,.int .i64 p,.slice A l.length c,.slice R m d]):=zh (lT.o.below hb iQ);have be:Hd (ay (fun k=>k=g) w wd):=zh (aE.o.then_ hb);have pt:g<wd.heap.size:=Nat.lt_of_lt_of_le iQ hb.size;clear hb;clear q0 q1;(iterate 4 (refine ao (v:=?_) aF (by decide) (fun _ _ _ h=>h) (Or.inl ⟨by rfl,?_⟩) (by assumption) ?_;rotate_left;(intro W aH;(try dsimp only at aH);go_simp;first | done | rfl);try simp only [Act.put,cr,cj,ch,UC,UB,VB]));(iterate 3 (refine ao (v:=undef) aF (by decide) (fun _ _ _ h=>h) (Or.inr ⟨by rfl,rfl⟩) (by assumption) ?_;try simp only [Act.put,cr,cj,ch,UC,UB,VB]));(iterate 7 (refine ao (v:=?_) aF (by decide) (fun _ _ _ h=>h) (Or.inl ⟨by rfl,?_⟩) (by assumption) ?_;rotate_left;(intro W aH;(try dsimp only at aH);go_simp;first | done | rfl);try simp only [Act.put,cr,cj,ch,UC,UB,VB]));(iterate 20 (refine ao (v:=?_) aF (by decide) (fun _ _ _ h=>h) (Or.inl ⟨by rfl,?_⟩) (by assumption) ?_;rotate_left;(intro W aH;(try dsimp only at aH);go_simp;first | done | rfl);try simp only [Act.put,cr,cj,ch,UC,UB,VB]));refine fa (by kernel_rfl) (fun K hK=>?_);go_simp
          go_at_call 144
          refine jc.mono ?_;rintro e w1 ⟨rfl,hw⟩;subst w1;rw [sA];refine hK.out _ _ ac (fun ac=>?_);clear hK K;(try simp only [Act.put,cr,cj,ch,UC,UB,VB]);(iterate 2 (refine ao (v:=?_) aF (by decide) (fun _ _ _ h=>h) (Or.inl ⟨by rfl,?_⟩) (by assumption) ?_;rotate_left;(intro W aH;(try dsimp only at aH);go_simp;first | done | rfl);try simp only [Act.put,cr,cj,ch,UC,UB,VB]));refine bz ?_;clear aF;go_wp2_with fail;refine dQ.mono ?_;rintro e w1 ⟨rfl,hw⟩;subst w1;go_wp2_with fail;have Ax:=C0.o (.inr (.inr ⟨x,by rw [ux.o xZ,HX.o];rfl,sA⟩));rw [Ax];exact ⟨rfl,cH be.o dA iw,rfl⟩
        case neg=>
          replace sA:=Bool.eq_false_iff.2 sA;refine wp_region_held_drew (S:=(fun w'=>w'.cell? ⟨g,0,none⟩=some (.string s)∧w'.cell? ⟨g,1,none⟩=some (.int .i64 p))) (by kernel_rfl) (by exact ⟨q0,q1⟩) (fun ac=>?_);refine bw ?_ ac;clear ac;rintro wd hb ac;refine aK 37 (by kernel_rfl) (fun aF=>?_);have nF:Hd (aj wd g 83 #[.string s,.int .i64 p,.slice A l.length c,.slice R m d]):=zh (lT.o.below hb iQ);have be:Hd (ay (fun k=>k=g) w wd):=zh (aE.o.then_ hb);have pt:g<wd.heap.size:=Nat.lt_of_lt_of_le iQ hb.size;clear hb;clear q0 q1;(iterate 4 (refine ao (v:=?_) aF (by decide) (fun _ _ _ h=>h) (Or.inl ⟨by rfl,?_⟩) (by assumption) ?_;rotate_left;(intro W aH;(try dsimp only at aH);go_simp;first | done | rfl);try simp only [Act.put,cr,cj,ch,UC,UB,VB]));(iterate 3 (refine ao (v:=undef) aF (by decide) (fun _ _ _ h=>h) (Or.inr ⟨by rfl,rfl⟩) (by assumption) ?_;try simp only [Act.put,cr,cj,ch,UC,UB,VB]));(iterate 7 (refine ao (v:=?_) aF (by decide) (fun _ _ _ h=>h) (Or.inl ⟨by rfl,?_⟩) (by assumption) ?_;rotate_left;(intro W aH;(try dsimp only at aH);go_simp;first | done | rfl);try simp only [Act.put,cr,cj,ch,UC,UB,VB]));(iterate 20 (refine ao (v:=?_) aF (by decide) (fun _ _ _ h=>h) (Or.inl ⟨by rfl,?_⟩) (by assumption) ?_;rotate_left;(intro W aH;(try dsimp only at aH);go_simp;first | done | rfl);try simp only [Act.put,cr,cj,ch,UC,UB,VB]));refine fa (by kernel_rfl) (fun K hK=>?_);go_simp
          go_at_call 144
          refine jc.mono ?_;rintro e w1 ⟨rfl,hw⟩;subst w1;rw [sA];refine hK.out _ _ ac (fun ac=>?_);clear hK K;(try simp only [Act.put,cr,cj,ch,UC,UB,VB]);(iterate 2 (refine ao (v:=?_) aF (by decide) (fun _ _ _ h=>h) (Or.inl ⟨by rfl,?_⟩) (by assumption) ?_;rotate_left;(intro W aH;(try dsimp only at aH);go_simp;first | done | rfl);try simp only [Act.put,cr,cj,ch,UC,UB,VB]));refine bz ?_;clear aF;have Ax:=zh (Vq.o (by rintro (h | h | ⟨y,hy,hz⟩);exact Yk.o (Uo.o.symm.trans h.1);exact zJ h;rw [ux.o xZ,HX.o] at hy;cases hy;exact absurd (sA.symm.trans hz) (by decide)));go_wp2_with fail;refine (gY (base:=base) (at_:=p) ⟨_,_,_,_,_,_,H.o.but be.o nF.o (by omega)⟩ (by omega)).mono ?_;rintro e w4 ⟨rfl,hS,dB⟩;have iW:=zh hS;have bu:=zh ((cH be.o dA iw).trans dB);clear hS dB;go_wp2_with fail
          go_end0
          refine ⟨bu.o,?_⟩;rw [Ax.o];refine ⟨rfl,?_⟩;rw [Um.o,show ((at_:Int)+((p - at_:Nat):Int))=(p:Int) from by omega,fH.o];exact iW.o
end
section
variable {w w':World} {base g at_:Nat} {s:ByteArray} {l:List Tk}
theorem NG.growR {A:Option Addr} {c:Nat} {R:Option Addr} {m d:Nat} {xs ys:List Value} {W w3:World} {v':Value} (h:NG base w g s at_ l A c R m d xs) (WL:m+1≤at_) (hW:Below w.heap.size w W) (aD:w3.ownsRow base 90 2 v' (m+1) (xs ++ ys))
    (hg:W.grownBy w3 (Value.slice R m d).ownBlock):∃ B d',v' = .slice B (m+1) d'∧mK base (w3.setCell ⟨g,3,none⟩ (.slice B (m+1) d')) g s at_ l∧Below base w (w3.setCell ⟨g,3,none⟩ (.slice B (m+1) d'))∧aj w3 g 83 #[.string s,.int .i64 at_,.slice A l.length c,.slice R m d]:=by
  obtain ⟨B,c',rfl⟩:=cA aD;have sE:=h.blk.lt;have hz:=hW.size;have eF:aj w3 g 83 #[.string s,.int .i64 at_,.slice A l.length c,.slice R m d]:=(h.blk.below hW sE).grown hg (fun e=>cD h.rem h.blk (by decide) e.symm)
  have R9:w3.ownsRow base 36 4 (.slice A l.length c) l.length (eg l):=(own_below h.tok hW).kept hg (by
    cases hA:(Value.slice A l.length c).ownBlock with
    | none=>exact .inl rfl
    | some k=>exact .inr fun e=>zg h.tok h.rem (by decide) hA e.symm)
  have OL:Below base w w3:=(hW.mono (Nat.le_trans h.lo (Nat.le_of_lt sE))).trans ⟨hg.os,hg.tape,hg.output,hg.size,fun b hb=>hg.block b (by have:=h.lo;omega) (fun e=>by
    have:=(h.rem.lt b e.symm).1
    omega)⟩
  refine ⟨B,c',rfl,⟨A,c,B,m+1,c',xs ++ ys,?_,?_,?_,WL,h.lo⟩,OL.setCell h.lo _,eF⟩
  · simpa using eF.set_ 3 (.slice B (m+1) c')
  · exact bk R9 fun k hk=>Below.heap_setCell w3 ⟨g,3,none⟩ _ k (fun e=>cD R9 eF (by decide) (by rw [hk,e]))
  · exact bk aD fun k hk=>Below.heap_setCell w3 ⟨g,3,none⟩ _ k (fun e=>cD aD eF (by decide) (by rw [hk,e]))
end
set_option maxRecDepth 100000
set_option maxHeartbeats 4000000
section
variable {w w':World} {base g at_:Nat} {s:ByteArray} {l:List Tk}
def PC (base:Nat) (w:World) (g:Nat) (s:ByteArray) (at_:Nat) (l:List Tk) (r:List UInt8) (o:Option Nat) (e:Ending) (w':World):Prop:=
  Below base w w'∧match o with
  | none=>e = .panicked (EW at_)
  | some n=>e = .returned (.tuple #[])∧mK base w' g s (at_+n) (if 0≤Lib.indexByte (r.take n) 10 then bB at_ l else l)
theorem ra (h:mK base w g s at_ l) (hl:l.length≤100000) (hs:s.size≤65536) (cX:at_+2≤s.size) (Ik:s.data.toList[at_]? = some 47) (iw:base≤w.heap.size) {mm:Int} (n_:w.cell? ⟨2,0,none⟩=some (.int .i64 mm)) :
    Calls prog 109 #[.pointer (some ⟨g,0,none⟩)] w (PC base w g s at_ l (s.data.toList.drop at_) (dK (s.data.toList.drop at_))):=by
  obtain ⟨A,c,R,m,d,xs,hm⟩:=h;have H:=zh hm;have Ay:=zh n_;have dA:=hm.lo;have q0:=hm.blk.cell 0;have q1:=hm.blk.cell 1;simp at q0 q1;have qf:=hm.blk.frozen;have ql:=hm.blk.lt;(have uE:(s.size:Int)≤65536:=by omega);(have U5:(at_:Int)≤(s.size:Int):=by omega);obtain ⟨rs,GP⟩:∃ rs,s.extract at_ s.size=rs:=⟨_,rfl⟩;(have GR:rs.data.toList=s.data.toList.drop at_:=by rw [← GP];exact Lib.extract_to_end s at_);(have OM:rs.size=s.size - at_:=by rw [← GP,ByteArray.size_extract];omega);rw [← GR];have HIB:Hd (∀ w,Calls prog 147 #[.string rs,.int .u8 10] w fun e w'=>e = .returned (.int .i64 (Lib.indexByte rs.data.toList 10))∧w'=w):=zh fun w=>Tryz.strings_IndexByte rs 10 w;(have h1z:1<rs.size:=by omega);(have h1zi:(1:Int)<(rs.size:Int):=by omega);obtain ⟨c1,JD⟩:∃ c1,rs[1]=c1:=⟨_,rfl⟩
  have Vv:Hd (rs.data.toList.getD 1 0=c1):=zh (by
    (have h2:1<rs.data.toList.length:=by rw [Array.length_toList];exact h1z);rw [List.getD_eq_getElem?_getD,List.getElem?_eq_getElem h2,Array.getElem_toList]
    exact JD)
  have Qc:=zh GP;have X8:=zh OM;(have WB:(rs.size:Int)≤65536:=by omega);have H47:Hd (rs.data.toList[0]? = some 47):=zh (by rw [GR,List.getElem?_drop];exact Ik);clear hm n_ GR OM Ik;go_enter func109,ntmps109;go_wp2_with fail;refine (HIB.o _).mono ?_;rintro e w1 ⟨rfl,hw⟩;subst w1;obtain ⟨ib,QA⟩:∃ ib,Lib.indexByte rs.data.toList 10=ib:=⟨_,rfl⟩;rw [QA];have Uj:=zh QA;have WZ:-1≤ib:=by rw [← QA];exact Lib.indexByte_ge _ _
  have LZ:∀ k:Nat,ib=(k:Int)→k<rs.size:=fun k hk=>by
    have h2:=(List.getElem?_eq_some_iff.1 (Lib.indexByte_some (QA.trans hk)).1).1;rw [Array.length_toList] at h2;exact h2
  have L0:∀ k:Nat,ib=(k:Int)→k≠0:=fun k hk h0=>by
    subst h0;have h2:=(Lib.indexByte_some (QA.trans hk)).1;rw [H47.o] at h2;exact absurd h2 (by decide)
  clear QA;by_cases Ej:c1=42
  case pos=>
    subst Ej;obtain ⟨r2,LY⟩:∃ r2,rs.extract 2 rs.size=r2:=⟨_,rfl⟩;(have Rf:r2.data.toList=rs.data.toList.drop 2:=by rw [← LY];exact Lib.extract_to_end rs 2);(have WF:r2.size=rs.size - 2:=by rw [← LY,ByteArray.size_extract];omega);have Z3:Hd (Calls prog 148 #[.string r2,.string ⟨#[42,47]⟩] w fun e w'=>e = .returned (.int .i64 (Lib.index (rs.data.toList.drop 2) [42,47]))∧w'=w):=zh (by have h9:=Tryz.strings_Index r2 ⟨#[42,47]⟩ mm w (by omega) Ay.o;rw [Rf] at h9;exact h9);obtain ⟨ix,Qz⟩:∃ ix,Lib.index (rs.data.toList.drop 2) [42,47]=ix:=⟨_,rfl⟩;rw [Qz] at Z3;have WV:-1≤ix:=by rw [← Qz];exact Lib.index_ge _ _
    have RF:0≤ix→ix+4≤(rs.size:Int):=fun h=>by
      have h3:=Lib.index_room (rs.data.toList.drop 2) [42,47] (by rw [Qz];exact h);rw [Qz,List.length_drop,Array.length_toList] at h3;have h4:rs.data.size=rs.size:=rfl;simp at h3;omega
    have Ui:=zh Qz;(have h2i:(2:Int)≤(rs.size:Int):=by omega);clear Rf WF Qz LZ WZ L0;go_wp2_with fail;refine Z3.o.mono ?_;rintro e w1 ⟨rfl,hw⟩;subst w1;by_cases GN:ix<0
    case pos=>
      have pE:Hd (dK rs.data.toList=none):=zh (by unfold dK;rw [if_pos Vv.o,Ui.o,if_pos GN]);go_wp2_with fail;refine dQ.mono ?_;rintro e w1 ⟨rfl,hw⟩;subst w1;go_wp2_with fail;refine ⟨rfl,Below.refl _ _,?_⟩;rw [pE.o]
    case neg=>
      obtain ⟨k,hk⟩:∃ k:Nat,ix=(k:Int):=⟨ix.toNat,by omega⟩;subst hk;have Nq:=RF (by omega);obtain ⟨n,hn⟩:∃ n:Nat,n=k+4:=⟨_,rfl⟩;(have Rr:(k:Int)+4=(n:Int):=by omega);have Ya:Hd (n=k+4):=zh hn;clear hn RF WV;have pE:Hd (dK rs.data.toList=some n):=zh (by unfold dK;rw [if_pos Vv.o,Ui.o,if_neg GN,Ya.o];rfl);(have Qv:(n:Int)≤(rs.size:Int):=by omega);(have Rq:(0:Int)≤(n:Int):=by omega);obtain ⟨tk,LV⟩:∃ tk,rs.extract 0 n=tk:=⟨_,rfl⟩;(have GO:tk.data.toList=rs.data.toList.take n:=by rw [← LV,Lib.extract_data];simp);(have Og:Hd (∀ w,Calls prog 147 #[.string tk,.int .u8 10] w fun e w'=>e = .returned (.int .i64 (Lib.indexByte (rs.data.toList.take n) 10))∧w'=w):=zh fun w=>by have h9:=Tryz.strings_IndexByte tk 10 w;rw [GO] at h9;exact h9);have jS:Hd (aj (w.setCell ⟨g,1,none⟩ (.int .i64 (at_+n))) g 83 #[.string s,.int .i64 ((at_+n:Nat):Int),.slice A l.length c,.slice R m d]):=zh (by simpa using H.o.blk.set_ 1 (.int .i64 (at_+n)));have a7:Hd (ay (fun k=>k=g) w (w.setCell ⟨g,1,none⟩ (.int .i64 (at_+n)))):=zh ((ay.refl (fun k=>k=g) w).set_ (p:=⟨g,1,none⟩) (.inr rfl) _);have Da:=zh (H.o.but a7.o jS.o (by omega));obtain ⟨w1,Qs⟩:∃ w1,w.setCell ⟨g,1,none⟩ (.int .i64 (at_+n))=w1:=⟨_,rfl⟩;rw [Qs] at jS a7 Da;clear GO;go_wp2_with fail;clear q0 q1;have q1:=jS.o.cell 1;have q3:=jS.o.cell 3;simp at q1 q3;have Yq:=jS.o.frozen;have Yp:=jS.o.lt;obtain ⟨i0,fL,ga,f_,fZ⟩:=info_parts kQ
      go_region_law
        (first
          | (refine bE _ rfl _ _ 57 rfl base 90 i0 _ 2 16 underlying57 fL ga f_ fZ rfl (by omega) (.slice R m d) m xs (by simp [Act.eval]) (own_below Da.o.rem (aG _ _).drew) (fun b=>b=w1.heap.size) (.slice (some ⟨w1.heap.size,0,none⟩) 1 1) 1 [.int .i64 at_,.int .i64 (at_+n)] (by simp [Act.eval]) (((aj.new w1 _ _).row (n:=1) rfl (by unfold maxLen;omega) rfl)) (by simp [Value.oneCell']) (by have h9:=H.o.mle;unfold maxLen;omega) (by have h9:=H.o.mle;omega) (by have h9:=H.o.lo;simp;omega) ?_
             intro v' w3 aD hg bN cX;obtain ⟨B,c',rfl,hS,mB,eF⟩:=Da.o.growR (by have h9:=H.o.mle;omega) (aG _ _).drew aD hg;have HS:=zh hS;have sZ:=zh mB;have s3:=eF.cell 3;simp at s3;have sf:=eF.frozen;have sl:=eF.lt
             clear aD hg bN cX hS mB eF))
      all_goals
        go_wp2_with fail;refine (Og.o _).mono ?_;rintro e w4 ⟨rfl,UN⟩;subst w4;by_cases OQ:0≤Lib.indexByte (rs.data.toList.take n) 10
        · go_wp2_with fail
          refine (k6 (base:=base) (at_:=at_+n) HS.o (by omega) (by have h9:=a7.o.size;have h8:=sZ.o.size;omega)).mono ?_;rintro e w5 ⟨rfl,fu,dz⟩;have dI:=zh fu;have a8:=zh ((cH a7.o dA iw).trans (sZ.o.trans dz));clear fu dz;go_wp2_with fail
          go_end0
          refine ⟨a8.o,?_⟩;rw [pE.o];refine ⟨rfl,?_⟩;rw [if_pos OQ];exact dI.o
        · go_wp2_with fail
          go_end0
          refine ⟨(cH a7.o dA iw).trans sZ.o,?_⟩;rw [pE.o];refine ⟨rfl,?_⟩;rw [if_neg (by omega)];exact HS.o
  case neg=>
    have f42:((c1.toNat:Int) == 42)=false:=du Ej;by_cases fL:ib<0
    case pos=>
      obtain ⟨n,hn⟩:∃ n:Nat,n=rs.size:=⟨_,rfl⟩;have Ya:Hd (n=rs.size):=zh hn;(have Rr:(rs.size:Int)=(n:Int):=by omega);clear hn LZ L0;have pE:Hd (dK rs.data.toList=some n):=zh (by unfold dK;rw [if_neg (by rw [Vv.o];exact Ej),Uj.o,if_pos fL,Array.length_toList,Ya.o];rfl);(have Qv:(n:Int)≤(rs.size:Int):=by omega);(have Rq:(0:Int)≤(n:Int):=by omega);obtain ⟨tk,LV⟩:∃ tk,rs.extract 0 n=tk:=⟨_,rfl⟩;(have GO:tk.data.toList=rs.data.toList.take n:=by rw [← LV,Lib.extract_data];simp);(have Og:Hd (∀ w,Calls prog 147 #[.string tk,.int .u8 10] w fun e w'=>e = .returned (.int .i64 (Lib.indexByte (rs.data.toList.take n) 10))∧w'=w):=zh fun w=>by have h9:=Tryz.strings_IndexByte tk 10 w;rw [GO] at h9;exact h9);have jS:Hd (aj (w.setCell ⟨g,1,none⟩ (.int .i64 (at_+n))) g 83 #[.string s,.int .i64 ((at_+n:Nat):Int),.slice A l.length c,.slice R m d]):=zh (by simpa using H.o.blk.set_ 1 (.int .i64 (at_+n)));have a7:Hd (ay (fun k=>k=g) w (w.setCell ⟨g,1,none⟩ (.int .i64 (at_+n)))):=zh ((ay.refl (fun k=>k=g) w).set_ (p:=⟨g,1,none⟩) (.inr rfl) _);have Da:=zh (H.o.but a7.o jS.o (by omega));obtain ⟨w1,Qs⟩:∃ w1,w.setCell ⟨g,1,none⟩ (.int .i64 (at_+n))=w1:=⟨_,rfl⟩;rw [Qs] at jS a7 Da;clear GO;go_wp2_with fail;clear q0 q1;have q1:=jS.o.cell 1;have q3:=jS.o.cell 3;simp at q1 q3;have Yq:=jS.o.frozen;have Yp:=jS.o.lt;obtain ⟨i0,fL,ga,f_,fZ⟩:=info_parts kQ
      go_region_law
        (first
          | (refine bE _ rfl _ _ 57 rfl base 90 i0 _ 2 16 underlying57 fL ga f_ fZ rfl (by omega) (.slice R m d) m xs (by simp [Act.eval]) (own_below Da.o.rem (aG _ _).drew) (fun b=>b=w1.heap.size) (.slice (some ⟨w1.heap.size,0,none⟩) 1 1) 1 [.int .i64 at_,.int .i64 (at_+n)] (by simp [Act.eval]) (((aj.new w1 _ _).row (n:=1) rfl (by unfold maxLen;omega) rfl)) (by simp [Value.oneCell']) (by have h9:=H.o.mle;unfold maxLen;omega) (by have h9:=H.o.mle;omega) (by have h9:=H.o.lo;simp;omega) ?_
             intro v' w3 aD hg bN cX;obtain ⟨B,c',rfl,hS,mB,eF⟩:=Da.o.growR (by have h9:=H.o.mle;omega) (aG _ _).drew aD hg;have HS:=zh hS;have sZ:=zh mB;have s3:=eF.cell 3;simp at s3;have sf:=eF.frozen;have sl:=eF.lt
             clear aD hg bN cX hS mB eF))
      all_goals
        go_wp2_with fail;refine (Og.o _).mono ?_;rintro e w4 ⟨rfl,UN⟩;subst w4;by_cases OQ:0≤Lib.indexByte (rs.data.toList.take n) 10
        · go_wp2_with fail
          refine (k6 (base:=base) (at_:=at_+n) HS.o (by omega) (by have h9:=a7.o.size;have h8:=sZ.o.size;omega)).mono ?_;rintro e w5 ⟨rfl,fu,dz⟩;have dI:=zh fu;have a8:=zh ((cH a7.o dA iw).trans (sZ.o.trans dz));clear fu dz;go_wp2_with fail
          go_end0
          refine ⟨a8.o,?_⟩;rw [pE.o];refine ⟨rfl,?_⟩;rw [if_pos OQ];exact dI.o
        · go_wp2_with fail
          go_end0
          refine ⟨(cH a7.o dA iw).trans sZ.o,?_⟩;rw [pE.o];refine ⟨rfl,?_⟩;rw [if_neg (by omega)];exact HS.o
    case neg=>
      obtain ⟨n,hn⟩:∃ n:Nat,ib=(n:Int):=⟨ib.toNat,by omega⟩;have UT:=LZ n hn;have D7:n≠0:=L0 n hn;subst hn;clear LZ L0;have pE:Hd (dK rs.data.toList=some n):=zh (by unfold dK;rw [if_neg (by rw [Vv.o];exact Ej),Uj.o,if_neg fL];rfl);(have Qv:(n:Int)≤(rs.size:Int):=by omega);(have Rq:(0:Int)≤(n:Int):=by omega);obtain ⟨tk,LV⟩:∃ tk,rs.extract 0 n=tk:=⟨_,rfl⟩;(have GO:tk.data.toList=rs.data.toList.take n:=by rw [← LV,Lib.extract_data];simp);(have Og:Hd (∀ w,Calls prog 147 #[.string tk,.int .u8 10] w fun e w'=>e = .returned (.int .i64 (Lib.indexByte (rs.data.toList.take n) 10))∧w'=w):=zh fun w=>by have h9:=Tryz.strings_IndexByte tk 10 w;rw [GO] at h9;exact h9);have jS:Hd (aj (w.setCell ⟨g,1,none⟩ (.int .i64 (at_+n))) g 83 #[.string s,.int .i64 ((at_+n:Nat):Int),.slice A l.length c,.slice R m d]):=zh (by simpa using H.o.blk.set_ 1 (.int .i64 (at_+n)));have a7:Hd (ay (fun k=>k=g) w (w.setCell ⟨g,1,none⟩ (.int .i64 (at_+n)))):=zh ((ay.refl (fun k=>k=g) w).set_ (p:=⟨g,1,none⟩) (.inr rfl) _);have Da:=zh (H.o.but a7.o jS.o (by omega));obtain ⟨w1,Qs⟩:∃ w1,w.setCell ⟨g,1,none⟩ (.int .i64 (at_+n))=w1:=⟨_,rfl⟩;rw [Qs] at jS a7 Da;clear GO;go_wp2_with fail;clear q0 q1;have q1:=jS.o.cell 1;have q3:=jS.o.cell 3;simp at q1 q3;have Yq:=jS.o.frozen;have Yp:=jS.o.lt;obtain ⟨i0,fL,ga,f_,fZ⟩:=info_parts kQ
      go_region_law
        (first
          | (refine bE _ rfl _ _ 57 rfl base 90 i0 _ 2 16 underlying57 fL ga f_ fZ rfl (by omega) (.slice R m d) m xs (by simp [Act.eval]) (own_below Da.o.rem (aG _ _).drew) (fun b=>b=w1.heap.size) (.slice (some ⟨w1.heap.size,0,none⟩) 1 1) 1 [.int .i64 at_,.int .i64 (at_+n)] (by simp [Act.eval]) (((aj.new w1 _ _).row (n:=1) rfl (by unfold maxLen;omega) rfl)) (by simp [Value.oneCell']) (by have h9:=H.o.mle;unfold maxLen;omega) (by have h9:=H.o.mle;omega) (by have h9:=H.o.lo;simp;omega) ?_
             intro v' w3 aD hg bN cX;obtain ⟨B,c',rfl,hS,mB,eF⟩:=Da.o.growR (by have h9:=H.o.mle;omega) (aG _ _).drew aD hg;have HS:=zh hS;have sZ:=zh mB;have s3:=eF.cell 3;simp at s3;have sf:=eF.frozen;have sl:=eF.lt
             clear aD hg bN cX hS mB eF))
      all_goals
        go_wp2_with fail;refine (Og.o _).mono ?_;rintro e w4 ⟨rfl,UN⟩;subst w4;by_cases OQ:0≤Lib.indexByte (rs.data.toList.take n) 10
        · go_wp2_with fail
          refine (k6 (base:=base) (at_:=at_+n) HS.o (by omega) (by have h9:=a7.o.size;have h8:=sZ.o.size;omega)).mono ?_;rintro e w5 ⟨rfl,fu,dz⟩;have dI:=zh fu;have a8:=zh ((cH a7.o dA iw).trans (sZ.o.trans dz));clear fu dz;go_wp2_with fail
          go_end0
          refine ⟨a8.o,?_⟩;rw [pE.o];refine ⟨rfl,?_⟩;rw [if_pos OQ];exact dI.o
        · go_wp2_with fail
          go_end0
          refine ⟨(cH a7.o dA iw).trans sZ.o,?_⟩;rw [pE.o];refine ⟨rfl,?_⟩;rw [if_neg (by omega)];exact HS.o
end
set_option maxRecDepth 100000
set_option maxHeartbeats 8000000
section
variable {w w':World} {base g at_:Nat} {s:ByteArray} {l:List Tk}
theorem mK.below (h:mK base w g s at_ l) (hb:Below w.heap.size w w'):mK base w' g s at_ l:=by
  obtain ⟨A,c,R,m,d,xs,hm⟩:=h;exact ⟨A,c,R,m,d,xs,hm.blk.below hb hm.blk.lt,own_below hm.tok hb,own_below hm.rem hb,hm.mle,hm.lo⟩
theorem mK.to_ {p:Nat} (h:mK base w g s at_ l) (hp:at_≤p):mK base (w.setCell ⟨g,1,none⟩ (.int .i64 p)) g s p l:=by
  obtain ⟨A,c,R,m,d,xs,hm⟩:=h;exact ⟨A,c,R,m,d,xs,hm.but ((ay.refl (fun k=>k=g) w).set_ (p:=⟨g,1,none⟩) (.inr rfl) _) (by simpa using hm.blk.set_ 1 (.int .i64 p)) hp⟩
theorem mK.cells (h:mK base w g s at_ l):w.cell? ⟨g,0,none⟩=some (.string s)∧w.cell? ⟨g,1,none⟩=some (.int .i64 at_)∧(∀ i,w.frozen? ⟨g,i,none⟩=false)∧g<w.heap.size∧base≤g:=by
  obtain ⟨A,c,R,m,d,xs,hm⟩:=h;have q0:=hm.blk.cell 0;have q1:=hm.blk.cell 1;simp at q0 q1;exact ⟨q0,q1,hm.blk.frozen,hm.blk.lt,hm.lo⟩
theorem zF {x y:UInt8} {t:List UInt8} (h0:y≠0):Lib.hasPrefix (x :: t) [47,y]=true↔x=47∧t.headD 0=y:=by
  cases t with
  | nil=>simp [Lib.hasPrefix,List.isPrefixOf,h0];intro _ e;exact h0 e.symm
  | cons z t=>
    simp only [Lib.hasPrefix,List.isPrefixOf,Bool.and_eq_true,beq_iff_eq,and_true,List.headD_cons];exact ⟨fun h=>⟨h.1.symm,h.2.symm⟩,fun h=>⟨h.1.symm,h.2.symm⟩⟩
theorem F1 {l:List UInt8} {n:Nat}:(bs l).extract 0 n=bs (l.take n):=by
  apply ByteArray.ext;apply Array.ext';rw [Lib.extract_data,Nat.sub_zero,List.drop_zero];rfl
theorem lF {r:List UInt8} {k:Nat} (h:dK r=some k) (h0:∃ t,r=47 :: t):1≤k∧k≤r.length:=by
  obtain ⟨t,rfl⟩:=h0;unfold dK at h;split at h
  · split at h
    · cases h
    · rename_i h1
      have h2:=Lib.index_room ((47 :: t).drop 2) [42,47] (by omega);rw [List.length_drop] at h2;cases h;simp only [List.length_cons,List.length_nil] at h2 ⊢;omega
  · split at h
    · cases h
      simp
    · rename_i h1
      obtain ⟨m,hm⟩:∃ m:Nat,Lib.indexByte (47 :: t) 10=m:=⟨_,(Int.toNat_of_nonneg (by omega)).symm⟩;have h2:=(Lib.indexByte_some hm).1;have h3:=(List.getElem?_eq_some_iff.1 h2).1;rw [hm] at h;cases h;refine ⟨?_,by simp at h3 ⊢;omega⟩;rcases Nat.eq_zero_or_pos m with h4 | h4
      · subst h4
        simp at h2
      · simp;omega
theorem rj {x:UInt8} {t:List UInt8} {k:Nat} (h:gl (x :: t)=some k) (hd:gd x.toNat=true):1≤k∧k≤(x :: t).length:=by
  unfold gl at h;split at h
  · cases h
  · cases h
    refine ⟨?_,AY⟩;rw [List.takeWhile_cons,if_pos (show dZ x=true from hd)];simp
theorem dE {fr:Nat}:∀ (r:List UInt8) (p:Nat) (acc:List UInt8) {q:Nat} {tx:List UInt8},bP fr r p acc = .ok (q,tx)→p<q∧q≤p+r.length
  | [],p,acc,q,tx,h=>by simp [bP] at h
  | c :: t,p,acc,q,tx,h=>by
    unfold bP at h;split at h
    · cases h
    split at h
    · cases h
      simp only [List.length_cons];omega
    split at h
    · cases t with
      | nil=>cases h
      | cons e t'=>
        simp only at h;cases he:oG e with
        | none=>rw [he] at h;cases h
        | some z=>
          rw [he] at h;have:=dE t' (p+2) _ h;simp only [List.length_cons];omega
    · have:=dE t (p+1) _ h
      simp only [List.length_cons];omega
theorem qX {s:ByteArray} (h:0<s.size):ce s≤s.size:=by
  unfold ce;split
  · rename_i h1
    have h2:=List.IsPrefix.length_le (List.isPrefixOf_iff_prefix.1 h1);rw [Array.length_toList] at h2;exact h2
  · split
    · rename_i h1
      have h2:=eo h1
      have h3:(s.extract 0 2).size=2:=by
        simp only [ec,List.mem_cons,List.not_mem_nil,or_false] at h2;rcases h2 with h2 | h2 | h2 | h2 | h2 | h2 | h2 | h2 | h2 | h2 | h2 | h2 | h2 | h2 | h2 <;> rw [h2] <;> rfl
      rw [ByteArray.size_extract] at h3;omega
    · split <;> omega
theorem fE (p:Int) (l:List Tk):(bB p l).length≤l.length+1:=by
  unfold bB;split
  · omega
  · split <;> simp
def Mw (base:Nat) (w:World) (g:Nat) (s:ByteArray) (r:Except Int (List Tk)) (e:Ending) (w':World):Prop:=
  Below base w w'∧match r with
  | .error p=>e = .panicked (EW p)
  | .ok l=>e = .returned (.tuple #[])∧∃ q,mK base w' g s q l
theorem Do (h:mK base w g s 0 []) (hs:s.size≤65536) (iw:base≤w.heap.size) (Zj:2<base) {mm:Int} (n_:w.cell? ⟨2,0,none⟩=some (.int .i64 mm)) :
    Calls prog 83 #[.pointer (some ⟨g,0,none⟩)] w (Mw base w g s (aX (s.size+1) s.data.toList 0 [])):=by
  obtain ⟨r,hr⟩:∃ r,aX (s.size+1) s.data.toList 0 []=r:=⟨_,rfl⟩;rw [hr];have HR:=zh hr;have H:=zh h;have Ay:=zh n_;(have uE:(s.size:Int)≤65536:=by omega);(have eN:s.data.toList.length=s.size:=by rw [Array.length_toList];rfl);clear h hr n_;go_enter func83,ntmps83;go_wp2_with fail
  (try go_step3)
  go_wp2_with fail
  (try go_step3)
  go_wp2_with fail
  go_loopg [] (s.size+1) (fun f wr=>∃ (p:Nat) (l:List Tk),s.size+1≤f+p∧p≤s.size∧l.length≤p∧Hd (mK base wr g s p l)∧Hd (Below base w wr)∧Hd (aX f (s.data.toList.drop p) p l=r))
  case atStart=>exact ⟨0,[],Nat.le_refl _,Nat.zero_le _,Nat.le_refl _,H,zh (Below.refl _ _),HR⟩
  case round=>
    obtain ⟨p,l,RS,cq,YN,HS,HB,HT⟩:=hrel;(try rename World=>wr);obtain ⟨q0,q1,qf,ql,sF⟩:=HS.o.cells;cases gk with
    | zero=>exact absurd RS (by omega)
    | succ f=>
      (have D5:(p:Int)≤(s.size:Int):=by omega);go_wp2_with fail;refine wp_region_held_drew (S:=(fun w'=>w'.cell? ⟨g,0,none⟩=some (.string s)∧w'.cell? ⟨g,1,none⟩=some (.int .i64 p))) (by kernel_rfl) (by exact ⟨q0,q1⟩) (fun ac=>?_);refine bw ?_ ac;clear ac;rintro wa hb ac;refine aK 10 (by kernel_rfl) (fun aF=>?_);have Da:Hd (mK base wa g s p l):=zh (HS.o.below hb);have a7:Hd (Below base w wa):=zh (HB.o.trans (hb.mono (by have h9:=HB.o.size;omega)));clear hb q0 q1 qf ql;(iterate 10 (refine ao (v:=?_) aF (by decide) (fun _ _ _ h=>h) (Or.inl ⟨by rfl,?_⟩) (by assumption) ?_;rotate_left;(intro W aH;(try dsimp only [ze] at aH);go_simp;first | done | rfl);try simp only [Act.put,cr,cj,ch,UC,UB,VB]));refine bz ?_;clear aF;obtain ⟨rs,GP⟩:∃ rs,s.extract p s.size=rs:=⟨_,rfl⟩;(have Qu:rs=bs (s.data.toList.drop p):=by rw [← GP];exact FX);(have OM:rs.size=s.size - p:=by rw [← GP,ByteArray.size_extract];omega);have X8:=zh OM;have Qd:=zh Qu;clear OM Qu;by_cases hp:p<s.size
      case neg=>
        rw [GP];obtain rfl:p=s.size:=by omega
        obtain rfl:r = .ok (bB s.size l ++ [⟨7,s.size,s.size,⟨#[]⟩⟩]):=by
          have h1:=HT.o;rw [List.drop_eq_nil_of_le (by omega)] at h1;exact h1.symm
        clear HT HR
        obtain rfl:rs=⟨#[]⟩:=by
          have h1:=Qd.o;rw [List.drop_eq_nil_of_le (by omega)] at h1;exact h1
        clear GP Qd X8;obtain ⟨q0,q1,qf,ql,-⟩:=Da.o.cells;go_wp2_with fail;refine (k6 (base:=base) Da.o (by omega) (by have h9:=a7.o.size;omega)).mono ?_;rintro e w4 ⟨rfl,rD,dB⟩;have iW:=zh rD;have bu:=zh (a7.o.trans dB);clear rD dB q0 q1 qf ql;obtain ⟨q0,q1,qf,ql,-⟩:=iW.o.cells;have tB:=fE (s.size:Int) l;go_wp2_with fail;refine (gY (base:=base) iW.o (by omega)).mono ?_;rintro e w5 ⟨rfl,fu,dz⟩;have dI:=zh fu;have a8:=zh (bu.o.trans dz);clear fu dz;go_wp2_with fail
        go_end0
        exact ⟨a8.o,rfl,_,dI.o⟩
      case pos=>
        obtain ⟨x,hx⟩:∃ x,s[p]=x:=⟨_,rfl⟩;(have fs:(p:Int)<(s.size:Int):=by omega);obtain ⟨t,ht⟩:∃ t,s.data.toList.drop (p+1)=t:=⟨_,rfl⟩
        have d9:s.data.toList.drop p=x :: t:=by
          rw [List.drop_eq_getElem_cons (by omega),Array.getElem_toList,ht];exact congrArg (· :: t) hx
        have HX:=zh hx;have mJ:=zh d9;have Fi:=zh ht;rw [d9] at HT Qd;have OM:=X8.o;(have Xw:0<rs.size:=by omega);(have h0zi:0<(rs.size:Int):=by omega);(have WB:(rs.size:Int)≤65536:=by omega);(have GR:rs.data.toList=x :: t:=by rw [Qd.o];rfl);have ZT:=zh GR
        have hr0:rs[0]=x:=by
          (have h1:rs.data.toList[0]? = some x:=by rw [GR];rfl);rw [List.getElem?_eq_getElem (by rw [Array.length_toList];exact Xw),Array.getElem_toList] at h1;exact Option.some.inj h1
        (have gQ:rs.toList.isEmpty=false:=by rw [Lib.toList_data,GR];rfl);have sy:(rs.toList == [])=false:=by rw [Lib.toList_data,GR];rfl
        have GO:t.length+1+p=s.size:=by
          (have h1:rs.size=t.length+1:=by have h1:=congrArg List.length GR;rw [Array.length_toList] at h1;exact h1);omega
        have yD:Hd (∀ k,(x :: t).drop k=s.data.toList.drop (p+k)):=zh (fun k=>by rw [← d9,List.drop_drop]);(have WC:rs.size=t.length+1:=by omega);(have HRS1:rs.size≤t.length+1:=by omega);obtain ⟨n,hn⟩:∃ n,dq (x :: t)=n:=⟨_,rfl⟩;(have Jt:n≤rs.size:=by have h1:=kZ (l:=x :: t);rw [hn] at h1;simp at h1;omega);(have HNM:Hd (∀ w,Calls prog 106 #[.string rs] w fun e w'=>e = .returned (.int .i64 n)∧w'=w):=zh fun w=>by have h9:=DO (s:=rs) (w:=w) (by omega);rw [GR,hn] at h9;exact h9);have HN:=zh hn;(have Qv:(n:Int)≤(rs.size:Int):=by omega);rw [GP];clear GP hx ht d9 GR hn OM WC;obtain ⟨q0,q1,qf,ql,-⟩:=Da.o.cells;go_wp2_with fail;refine wp_region_held_drew (S:=(fun w'=>w'.cell? ⟨g,0,none⟩=some (.string s)∧w'.cell? ⟨g,1,none⟩=some (.int .i64 p))) (by kernel_rfl) (by exact ⟨q0,q1⟩) (fun ac=>?_);refine bw ?_ ac;clear ac;rintro wb hb ac;refine aK 8 (by kernel_rfl) (fun aF=>?_);have fh:Hd (mK base wb g s p l):=zh (Da.o.below hb);have aE:Hd (Below base w wb):=zh (a7.o.trans (hb.mono (by have h9:=a7.o.size;omega)));clear hb q0 q1 qf ql
        skip
        (iterate 5 (refine ao (v:=?_) aF (by decide) (fun _ _ _ h=>h) (Or.inl ⟨by rfl,?_⟩) (by assumption) ?_;rotate_left;(intro W aH;(try dsimp only [ze] at aH);go_simp;first | done | rfl);try simp only [Act.put,cr,cj,ch,UC,UB,VB]));refine fa (by kernel_rfl) (fun K hK=>?_);go_simp
        go_at_call 106
        refine (HNM.o _).mono ?_;rintro e w1 ⟨rfl,hw⟩;subst w1;refine hK.out _ _ ac (fun ac=>?_);clear hK K;(try simp only [Act.put,cr,cj,ch,UC,UB,VB]);(iterate 2 (refine ao (v:=?_) aF (by decide) (fun _ _ _ h=>h) (Or.inl ⟨by rfl,?_⟩) (by assumption) ?_;rotate_left;(intro W aH;(try dsimp only [ze] at aH);go_simp;first | done | rfl);try simp only [Act.put,cr,cj,ch,UC,UB,VB]));refine bz ?_;clear aF;clear ac gQ sy;obtain ⟨q0,q1,qf,ql,-⟩:=fh.o.cells;by_cases oa:x=10
        case pos=>
          subst oa;have fH:Hd (aX f t (p+1) (bB p l)=r):=zh (by have h1:=HT.o;unfold aX at h1;rw [if_pos rfl] at h1;exact h1);clear HT HR;go_wp2_with fail;refine (k6 (base:=base) fh.o (by omega) (by have h9:=aE.o.size;omega)).mono ?_;rintro e w4 ⟨rfl,rD,dB⟩;have iW:=zh rD;have bu:=zh (aE.o.trans dB);clear rD dB q0 q1 qf ql;obtain ⟨q0,q1,qf,ql,-⟩:=iW.o.cells;have tB:=fE (p:Int) l;(have r_:(p:Int)+1≤(s.size:Int):=by omega);go_wp2_with fail;have dI:Hd (mK base (w4.setCell ⟨g,1,none⟩ (.int .i64 (p+1))) g s (p+1) (bB p l)):=zh (by have h9:=iW.o.to_ (p:=p+1) (by omega);simpa using h9);have a8:Hd (Below base w (w4.setCell ⟨g,1,none⟩ (.int .i64 (p+1)))):=zh (bu.o.setCell sF _)
          go_roundg f
          case measure=>omega
          case rel=>exact ⟨p+1,bB p l,by omega,by omega,by omega,dI,a8,zh (by rw [Fi.o];exact fH.o)⟩
        case neg=>
        have f10:((x.toNat:Int) == 10)=false:=du oa;by_cases r9:x=32∨x=9∨x=13
        case pos=>
          have fH:Hd (aX f t (p+1) l=r):=zh (by have h1:=HT.o;unfold aX at h1;rw [if_neg oa,if_pos r9] at h1;exact h1);clear HT HR;(have r_:(p:Int)+1≤(s.size:Int):=by omega);have dI:Hd (mK base (wb.setCell ⟨g,1,none⟩ (.int .i64 (p+1))) g s (p+1) l):=zh (by have h9:=fh.o.to_ (p:=p+1) (by omega);simpa using h9);have a8:Hd (Below base w (wb.setCell ⟨g,1,none⟩ (.int .i64 (p+1)))):=zh (aE.o.setCell sF _);rcases r9 with rfl | rfl | rfl
          all_goals
            go_wp2_with fail
            go_roundg f
            case measure=>omega
            case rel=>exact ⟨p+1,l,by omega,by omega,by omega,dI,a8,zh (by rw [Fi.o];exact fH.o)⟩
        case neg=>
        have f32:((x.toNat:Int) == 32)=false:=du fun e=>r9 (.inl e);have f9:((x.toNat:Int) == 9)=false:=du fun e=>r9 (.inr (.inl e));have f13:((x.toNat:Int) == 13)=false:=du fun e=>r9 (.inr (.inr e));(have Vs:Hd (∀ w,Calls prog 108 #[.string rs,.string ⟨#[47,47]⟩] w fun e w'=>e = .returned (.bool (Lib.hasPrefix (x :: t) [47,47]))∧w'=w):=zh fun w=>by have h9:=Tryz.strings_HasPrefix rs ⟨#[47,47]⟩ w;rw [ZT.o] at h9;exact h9);(have Z5:Hd (∀ w,Calls prog 108 #[.string rs,.string ⟨#[47,42]⟩] w fun e w'=>e = .returned (.bool (Lib.hasPrefix (x :: t) [47,42]))∧w'=w):=zh fun w=>by have h9:=Tryz.strings_HasPrefix rs ⟨#[47,42]⟩ w;rw [ZT.o] at h9;exact h9);have KU:=zh r9;have K1:=zh oa;clear oa r9;go_wp2_with fail;refine (Vs.o _).mono ?_;rintro e w1 ⟨rfl,hw⟩;subst w1;by_cases uc:Lib.hasPrefix (x :: t) [47,47]=true
        case pos=>
          (have hc:x=47∧(t.headD 0=47∨t.headD 0=42):=by have h1:=(zF (by decide)).1 uc;exact ⟨h1.1,.inl h1.2⟩);rw [uc];clear uc;have HC:=zh hc
          have Ik:s.data.toList[p]? = some 47:=by
            (have h1:(s.data.toList.drop p)[0]? = some 47:=by rw [mJ.o,hc.1];rfl);rw [List.getElem?_drop] at h1;exact h1
          have OI:1≤t.length:=by
            cases t with
            | nil=>have h1:=hc.2;simp at h1
            | cons z t=>simp
          have Jw:wb.cell? ⟨2,0,none⟩=some (.int .i64 mm):=(aE.o.cell (p:=⟨2,0,none⟩) (by show _<base;omega)).trans Ay.o;clear hc;go_wp2_with fail;have DZ:=ra (base:=base) fh.o (by omega) hs (by omega) Ik (by have h9:=aE.o.size;omega) Jw;rw [mJ.o] at DZ;have pE:=zh DZ;clear DZ Ik Jw;refine pE.o.mono ?_;rintro e w4 ⟨dB,iR⟩;have bu:=zh (aE.o.trans dB);clear dB pE;have mL:Hd ((match dK (x :: t) with | none=>.error (p:Int) | some n=>aX f ((x :: t).drop n) (p+n) (if 0≤Lib.indexByte ((x :: t).take n) 10 then bB p l else l))=r):=zh (by have h1:=HT.o;unfold aX at h1;rw [if_neg K1.o,if_neg KU.o,if_pos HC.o] at h1;exact h1);clear HT HR;cases ia:dK (x :: t) with
          | none=>
            rw [ia] at iR mL;obtain rfl:=iR;obtain rfl:r = .error p:=mL.o.symm;go_wp2_with fail;exact ⟨rfl,bu.o,rfl⟩
          | some k=>
            rw [ia] at iR mL;obtain ⟨rfl,rD⟩:=iR;have iW:=zh rD;have Qu:=lF ia;have tB:=fE (p:Int) l;clear rD ia;go_wp2_with fail;obtain ⟨AE,fT⟩:=Qu ⟨t,by rw [HC.o.1]⟩;simp only [List.length_cons] at fT
            go_roundg f
            case measure=>omega
            case rel=>exact ⟨p+k,_,by omega,by omega,(by split <;> omega),iW,bu,zh (by have h1:=mL.o;rw [yD.o] at h1;exact h1)⟩
        case neg=>
        rw [Bool.eq_false_iff.2 uc];go_wp2_with fail;refine (Z5.o _).mono ?_;rintro e w1 ⟨rfl,hw⟩;subst w1;by_cases FN:Lib.hasPrefix (x :: t) [47,42]=true
        case pos=>
          (have hc:x=47∧(t.headD 0=47∨t.headD 0=42):=by have h1:=(zF (by decide)).1 FN;exact ⟨h1.1,.inr h1.2⟩);rw [FN];clear FN uc;have HC:=zh hc
          have Ik:s.data.toList[p]? = some 47:=by
            (have h1:(s.data.toList.drop p)[0]? = some 47:=by rw [mJ.o,hc.1];rfl);rw [List.getElem?_drop] at h1;exact h1
          have OI:1≤t.length:=by
            cases t with
            | nil=>have h1:=hc.2;simp at h1
            | cons z t=>simp
          have Jw:wb.cell? ⟨2,0,none⟩=some (.int .i64 mm):=(aE.o.cell (p:=⟨2,0,none⟩) (by show _<base;omega)).trans Ay.o;clear hc;go_wp2_with fail;have DZ:=ra (base:=base) fh.o (by omega) hs (by omega) Ik (by have h9:=aE.o.size;omega) Jw;rw [mJ.o] at DZ;have pE:=zh DZ;clear DZ Ik Jw;refine pE.o.mono ?_;rintro e w4 ⟨dB,iR⟩;have bu:=zh (aE.o.trans dB);clear dB pE;have mL:Hd ((match dK (x :: t) with | none=>.error (p:Int) | some n=>aX f ((x :: t).drop n) (p+n) (if 0≤Lib.indexByte ((x :: t).take n) 10 then bB p l else l))=r):=zh (by have h1:=HT.o;unfold aX at h1;rw [if_neg K1.o,if_neg KU.o,if_pos HC.o] at h1;exact h1);clear HT HR;cases ia:dK (x :: t) with
          | none=>
            rw [ia] at iR mL;obtain rfl:=iR;obtain rfl:r = .error p:=mL.o.symm;go_wp2_with fail;exact ⟨rfl,bu.o,rfl⟩
          | some k=>
            rw [ia] at iR mL;obtain ⟨rfl,rD⟩:=iR;have iW:=zh rD;have Qu:=lF ia;have tB:=fE (p:Int) l;clear rD ia;go_wp2_with fail;obtain ⟨AE,fT⟩:=Qu ⟨t,by rw [HC.o.1]⟩;simp only [List.length_cons] at fT
            go_roundg f
            case measure=>omega
            case rel=>exact ⟨p+k,_,by omega,by omega,(by split <;> omega),iW,bu,zh (by have h1:=mL.o;rw [yD.o] at h1;exact h1)⟩
        case neg=>
        have HC:Hd (¬ (x=47∧(t.headD 0=47∨t.headD 0=42))):=zh (fun h=>h.2.elim (fun e=>uc ((zF (by decide)).2 ⟨h.1,e⟩)) (fun e=>FN ((zF (by decide)).2 ⟨h.1,e⟩)));rw [Bool.eq_false_iff.2 FN];clear uc FN Vs Z5;have mL:Hd ((if 60<n then .error (p:Int) else if 0<n then aX f ((x :: t).drop n) (p+n) (l ++ [⟨if j7 (bs ((x :: t).take n))=true then 4 else 1,p,p+n,bs ((x :: t).take n)⟩]) else if dZ x=true then (match gl (x :: t) with | none=>.error (p:Int) | some n=>aX f ((x :: t).drop n) (p+n) (l ++ [⟨2,p,p+n,bs ((x :: t).take n)⟩])) else if x=34 then (match bP p t (p+1) [] with | .error e=>.error e | .ok (q,tx)=>aX f ((x :: t).drop (q - p)) q (l ++ [⟨3,p,q,bs tx⟩])) else if x=59 then aX f t (p+1) (l ++ [⟨6,p,p+1,⟨#[59]⟩⟩]) else if ce (bs (x :: t))=0 then .error (p:Int) else aX f ((x :: t).drop (ce (bs (x :: t)))) (p+ce (bs (x :: t))) (l ++ [⟨5,p,p+ce (bs (x :: t)),bs ((x :: t).take (ce (bs (x :: t))))⟩]))=r):=zh (by have h1:=HT.o;unfold aX at h1;rw [if_neg K1.o,if_neg KU.o,if_neg HC.o,HN.o] at h1;exact h1);clear HT HR;by_cases JM:60<n
        case pos=>
          (obtain rfl:r = .error p:=by have h1:=mL.o;rw [if_pos JM] at h1;exact h1.symm);go_wp2_with fail;refine dQ.mono ?_;rintro e w9 ⟨rfl,hw⟩;subst w9;go_wp2_with fail;exact ⟨rfl,aE.o,rfl⟩
        case neg=>
        by_cases ud:0<n
        case pos=>
          have fH:Hd (aX f ((x :: t).drop n) (p+n) (l ++ [⟨if j7 (bs ((x :: t).take n))=true then 4 else 1,p,p+n,bs ((x :: t).take n)⟩])=r):=zh (by have h1:=mL.o;rw [if_neg JM,if_pos ud] at h1;exact h1);clear mL;(have YF:(p:Int)+(n:Int)≤(s.size:Int):=by omega);(have hn0i:0<(n:Int):=by omega);(have h60i:(n:Int)≤60:=by omega);obtain ⟨tk,LV⟩:∃ tk,rs.extract 0 n=tk:=⟨_,rfl⟩;have Qa:Hd (tk=bs ((x :: t).take n)):=zh (by rw [← LV,Qd.o];exact F1);have CX:Hd (mK base (wb.setCell ⟨g,1,none⟩ (.int .i64 ((p:Int)+n))) g s (p+n) l):=zh (by have h9:=fh.o.to_ (p:=p+n) (by omega);simpa using h9);have C1:Hd (Below base w (wb.setCell ⟨g,1,none⟩ (.int .i64 ((p:Int)+n)))):=zh (aE.o.setCell sF _);obtain ⟨wc,Jv⟩:∃ W,wb.setCell ⟨g,1,none⟩ (.int .i64 ((p:Int)+n))=W:=⟨_,rfl⟩;rw [Jv] at CX C1
          skip
          go_wp2_with fail;refine Dd.mono ?_;rintro e w1 ⟨rfl,hw⟩;subst w1;by_cases AC:j7 tk=true
          all_goals
            (first | rw [AC] | rw [Bool.eq_false_iff.2 AC]);go_wp2_with fail;refine (gY (base:=base) CX.o (by omega)).mono ?_;rintro e w5 ⟨rfl,fu,dz⟩;have dI:=zh fu;have a8:=zh (C1.o.trans dz);clear fu dz;go_wp2_with fail
            go_roundg f
            case measure=>omega
            case rel=>exact ⟨p+n,_,by omega,by omega,(by simp;omega),dI,a8,zh (by have h1:=fH.o;rw [← Qa.o] at h1;(first | rw [if_pos AC] at h1 | rw [if_neg AC] at h1);rw [yD.o] at h1;simpa using h1)⟩
        case neg=>
        (obtain rfl:n=0:=by omega);clear Qv Jt JM;have kp:=zh mL.o;rw [if_neg (by omega),if_neg (by omega)] at kp;clear mL;go_wp2_with fail;refine lM.mono ?_;rintro e w1 ⟨rfl,hw⟩;subst w1;by_cases pe:gd x.toNat=true
        case pos=>
          rw [pe];go_wp2_with fail;have OP:=zj (base:=base) fh.o (by omega) hs hp (by rw [HX.o];exact pe) (by have h9:=aE.o.size;omega);rw [mJ.o] at OP;have T9:=zh OP;clear OP;refine T9.o.mono ?_;rintro e w4 ⟨dB,iR⟩;have bu:=zh (aE.o.trans dB);clear dB T9;have Ln:Hd ((match gl (x :: t) with | none=>.error (p:Int) | some n=>aX f ((x :: t).drop n) (p+n) (l ++ [⟨2,p,p+n,bs ((x :: t).take n)⟩]))=r):=zh (by have h1:=kp.o;rw [if_pos (show dZ x=true from pe)] at h1;exact h1);clear kp;cases ia:gl (x :: t) with
          | none=>
            rw [ia] at iR Ln;obtain rfl:=iR;obtain rfl:r = .error p:=Ln.o.symm;go_wp2_with fail;exact ⟨rfl,bu.o,rfl⟩
          | some k=>
            rw [ia] at iR Ln;obtain ⟨rfl,rD⟩:=iR;have iW:=zh rD;obtain ⟨AE,fT⟩:=rj ia pe;simp only [List.length_cons] at fT;clear rD ia;go_wp2_with fail
            go_roundg f
            case measure=>omega
            case rel=>exact ⟨p+k,_,by omega,by omega,(by simp;omega),iW,bu,zh (by have h1:=Ln.o;rw [yD.o] at h1;rw [ma,mJ.o];simpa using h1)⟩
        case neg=>
        rw [Bool.eq_false_iff.2 pe];have Ln:=zh kp.o;rw [if_neg (show ¬ dZ x=true from pe)] at Ln;clear kp pe;by_cases sc:x=34
        case pos=>
          subst sc;have KS:=zh Ln.o;rw [if_pos rfl] at KS;clear Ln;go_wp2_with fail;have DW:=Df (base:=base) fh.o (by omega) hs hp (by have h9:=aE.o.size;omega);rw [Fi.o] at DW;have fH:=zh DW;clear DW;refine fH.o.mono ?_;rintro e w4 ⟨dB,iR⟩;have bu:=zh (aE.o.trans dB);clear dB fH;cases ia:bP p t (p+1) [] with
          | error q=>
            rw [ia] at iR KS;obtain rfl:=iR;obtain rfl:r = .error q:=KS.o.symm;go_wp2_with fail;exact ⟨rfl,bu.o,rfl⟩
          | ok qt=>
            obtain ⟨q,tx⟩:=qt;rw [ia] at iR KS;obtain ⟨rfl,rD⟩:=iR;have iW:=zh rD;obtain ⟨AE,fT⟩:=dE _ _ _ ia;clear rD ia;go_wp2_with fail
            go_roundg f
            case measure=>omega
            case rel=>exact ⟨q,_,by omega,by omega,(by simp;omega),iW,bu,zh (by have h1:=KS.o;rw [yD.o,show p+(q - p)=q from by omega] at h1;exact h1)⟩
        case neg=>
        have Sj:((x.toNat:Int) == 34)=false:=du sc;have KS:=zh Ln.o;rw [if_neg sc] at KS;clear Ln;by_cases FT:x=59
        case pos=>
          subst FT;have MR:=zh KS.o;rw [if_pos rfl] at MR;clear KS;(have r_:(p:Int)+1≤(s.size:Int):=by omega);have CX:Hd (mK base (wb.setCell ⟨g,1,none⟩ (.int .i64 ((p:Int)+1))) g s (p+1) l):=zh (by have h9:=fh.o.to_ (p:=p+1) (by omega);simpa using h9);have C1:Hd (Below base w (wb.setCell ⟨g,1,none⟩ (.int .i64 ((p:Int)+1)))):=zh (aE.o.setCell sF _);obtain ⟨wc,Jv⟩:∃ W,wb.setCell ⟨g,1,none⟩ (.int .i64 ((p:Int)+1))=W:=⟨_,rfl⟩;rw [Jv] at CX C1;go_wp2_with fail;refine (gY (base:=base) CX.o (by omega)).mono ?_;rintro e w5 ⟨rfl,fu,dz⟩;have dI:=zh fu;have a8:=zh (C1.o.trans dz);clear fu dz;go_wp2_with fail
          go_roundg f
          case measure=>omega
          case rel=>exact ⟨p+1,_,by omega,by omega,(by simp;omega),dI,a8,zh (by rw [Fi.o];simpa using MR.o)⟩
        case neg=>
        have f59:((x.toNat:Int) == 59)=false:=du FT;have MR:=zh KS.o;rw [if_neg FT] at MR;clear KS;obtain ⟨k,hk⟩:∃ k,ce rs=k:=⟨_,rfl⟩;have OW:=qX (s:=rs) Xw;rw [hk] at OW;rw [← Qd.o,hk] at MR;(have Oa:Hd (∀ w,Calls prog 116 #[.string rs] w fun e w'=>e = .returned (.int .i64 k)∧w'=w):=zh fun w=>by have h9:=Dm (s:=rs) (w:=w) Xw (by omega);rw [hk] at h9;exact h9);clear hk;go_wp2_with fail;refine (Oa.o _).mono ?_;rintro e w1 ⟨rfl,hw⟩;subst w1;by_cases vA:k=0
        case pos=>
          subst vA;rw [if_pos rfl] at MR;obtain rfl:r = .error p:=MR.o.symm;go_wp2_with fail;refine dQ.mono ?_;rintro e w9 ⟨rfl,hw⟩;subst w9;go_wp2_with fail;exact ⟨rfl,aE.o,rfl⟩
        case neg=>
        rw [if_neg vA] at MR;(have fk0:((k:Int) == 0)=false:=by rw [beq_eq_false_iff_ne];omega);(have WP:(k:Int)≤(rs.size:Int):=by omega);(have AE:1≤k:=by omega);(have hpk:(p:Int)+(k:Int)≤(s.size:Int):=by omega);obtain ⟨tk,LV⟩:∃ tk,rs.extract 0 k=tk:=⟨_,rfl⟩;have Qa:Hd (tk=bs ((x :: t).take k)):=zh (by rw [← LV,Qd.o];exact F1);clear vA;have CX:Hd (mK base (wb.setCell ⟨g,1,none⟩ (.int .i64 ((p:Int)+k))) g s (p+k) l):=zh (by have h9:=fh.o.to_ (p:=p+k) (by omega);simpa using h9);have C1:Hd (Below base w (wb.setCell ⟨g,1,none⟩ (.int .i64 ((p:Int)+k)))):=zh (aE.o.setCell sF _);obtain ⟨wc,Jv⟩:∃ W,wb.setCell ⟨g,1,none⟩ (.int .i64 ((p:Int)+k))=W:=⟨_,rfl⟩;rw [Jv] at CX C1;go_wp2_with fail;refine (gY (base:=base) CX.o (by omega)).mono ?_;rintro e w5 ⟨rfl,fu,dz⟩;have dI:=zh fu;have a8:=zh (C1.o.trans dz);clear fu dz;go_wp2_with fail
        go_roundg f
        case measure=>omega
        case rel=>exact ⟨p+k,_,by omega,by omega,(by simp;omega),dI,a8,zh (by have h1:=MR.o;rw [← Qa.o,yD.o] at h1;simpa using h1)⟩
end
end Go.Proofs.YtfmgdmeopakdaaaGreatDoor
namespace Go.Proofs.YtfmgdmeopakdaaaGreatDoor
open Go Go.RowKit Go.Lib Tryz
def gp (s:ByteArray):Nat→Nat→Bool
  | 0,_=>true
  | f+1,pos=>if pos<s.size then (if (Utf8.decode s pos).1=0 then false else if Utf8.decode s pos=(65533,1) then false else gp s f (pos+(Utf8.decode s pos).2)) else true
theorem FW {s:ByteArray} {p i:Nat} (hp:p≤s.size) (h:p+i<s.size):(s.extract p s.size).get! i=s.get! (p+i):=by
  have h1:i<(s.extract p s.size).size:=by rw [ByteArray.size_extract];omega
  have e1:(s.extract p s.size).get! i=(s.extract p s.size)[i]:=by
    show (s.extract p s.size).data[i]! = _
    rw [getElem!_pos (s.extract p s.size).data i h1];rfl
  have e2:s.get! (p+i)=s[p+i]:=by
    show s.data[p+i]! = _
    rw [getElem!_pos s.data (p+i) h];rfl
  rw [e1,e2,ByteArray.getElem_extract]
theorem FY {s:ByteArray} {p:Nat} (hp:p<s.size):Utf8.decode (s.extract p s.size) 0=Utf8.decode s p:=by
  (have hz:(s.extract p s.size).size=s.size - p:=by rw [ByteArray.size_extract];omega);rw [decode_at,decode_at,hz,Nat.sub_zero];(have h0:(s.extract p s.size).get! 0=s.get! p:=by rw [FW (by omega) (by omega)];rfl);rw [h0];(have key:∀ i,p+i<s.size→(s.extract p s.size).get! (0+i)=s.get! (p+i):=fun i h=>by rw [Nat.zero_add];exact FW (by omega) h);unfold decodeN;by_cases g1:p+1<s.size
  · rw [key 1 g1]
    by_cases g2:p+2<s.size
    · rw [key 2 g2]
      by_cases g3:p+3<s.size
      · rw [key 3 g3]
      · have:¬ 3<s.size - p:=by omega
        simp only [this,false_and,and_false,if_false]
    · have n2:¬ 2<s.size - p:=by omega
      (have n3:¬ 3<s.size - p:=by omega);simp only [n2,n3,false_and,and_false,if_false]
  · have n1:¬ 1<s.size - p:=by omega
    (have n2:¬ 2<s.size - p:=by omega);(have n3:¬ 3<s.size - p:=by omega);simp only [n1,n2,n3,false_and,and_false,if_false]
theorem Nz (s:ByteArray) (p:Nat) (h:p<s.size):1≤(Utf8.decode s p).2∧p+(Utf8.decode s p).2≤s.size:=by
  rw [decode_at];unfold decodeN
  (repeat' split) <;> simp only <;> omega
theorem xQ {s:ByteArray} {f pos:Nat} (hp:pos<s.size) (h:(Utf8.decode s pos).1=0):gp s (f+1) pos=false:=by unfold gp;rw [if_pos hp,if_pos h]
theorem AV {s:ByteArray} {f pos:Nat} (hp:pos<s.size) (h:Utf8.decode s pos=(65533,1)):gp s (f+1) pos=false:=by
  unfold gp;rw [if_pos hp,if_neg (by rw [h];simp),if_pos h]
theorem xR {s:ByteArray} {f pos:Nat} (hp:pos<s.size) (h0:(Utf8.decode s pos).1≠0) (h:Utf8.decode s pos≠(65533,1)):gp s (f+1) pos=gp s f (pos+(Utf8.decode s pos).2):=by
  conv=>lhs;unfold gp
  rw [if_pos hp,if_neg h0,if_neg h]
theorem AU {s:ByteArray} {f pos:Nat} (hp:¬ pos<s.size):gp s f pos=true:=by
  cases f with
  | zero=>rfl
  | succ f=>unfold gp;rw [if_neg hp]
theorem Pm (s:ByteArray) (p:Nat):(Utf8.decode s p).1≤1114111:=by
  rw [decode_at];have h0:(s.get! p).toNat<256:=UInt8.toNat_lt _;unfold decodeN
  (repeat' split) <;> simp only <;> omega
set_option maxHeartbeats 4000000 in
set_option maxRecDepth 1000000 in
theorem AR {s:ByteArray} {w:World} (hs:s.size≤140737488355328) (hT:Lib.Utf8Tabs 0 1 w) :
    Calls prog 81 #[.string s] w fun e w'=>e = .returned (.bool (gp s s.size 0))∧Below w.heap.size w w':=by
  have HTB:Hd (∀ W,Below w.heap.size w W→Lib.Utf8Tabs 0 1 W):=fun W h=>Utf8Tabs_below hT h;obtain ⟨r,hr⟩:∃ r,gp s s.size 0=r:=⟨_,rfl⟩;rw [hr];have HV:=zh hr;clear hr hT;go_enter func81,ntmps81;go_wp2_with fail
  go_loopw [] (fun wr=>∃ (pos fuel:Nat),wr.heap[w.heap.size]? = some (.stringIter s pos)∧Hd (Below w.heap.size w wr)∧Hd (gp s fuel pos=r)∧s.size≤pos+fuel∧pos≤s.size) (fun wr=>s.size - wr.iterPos w.heap.size)
  case atStart=>
    refine ⟨0,s.size,?_,(Below.refl _ w).alloc (Nat.le_refl _) _,HV.o,by omega,by omega⟩;exact World.iter_heap w s 0
  case round=>
    obtain ⟨pos,fuel,hit,gM,Lm,hfu,cq⟩:=hrel;have je:w.heap.size<wr.heap.size:=(Array.getElem?_eq_some_iff.1 hit).1;by_cases hp:pos<s.size
    · obtain ⟨f,rfl⟩:∃ f,fuel=f+1:=⟨fuel - 1,by omega⟩
      have hw:=Nz s pos hp;have YO:=Pm s pos;have hz:=fun h=>xQ (f:=f) hp h;have L6:=fun h=>AV (f:=f) hp h;have FO:=fun h0 h=>xR (f:=f) hp h0 h;have O4:=FY hp;have kR:∀ ty,(Instr.next (.pointer (some ⟨w.heap.size,0,none⟩)) true ty).run prog wr = .ok (.tuple #[.bool true,.int .i64 pos,.int .i32 (Utf8.decode s pos).1]) (wr.iterAt w.heap.size s (pos+(Utf8.decode s pos).2)):=fun ty=>Lib.run_next_any_at wr w.heap.size s pos ty hit hp;obtain ⟨D1,D2,hD⟩:∃ D1 D2,Utf8.decode s pos=(D1,D2):=⟨_,_,rfl⟩;rw [hD] at hw YO hz L6 FO O4;simp only [hD] at kR;simp only at hw YO hz L6 FO;have RH:=Lib.iterAt_heap wr w.heap.size s pos (pos+D2) hit;have aE:Hd (Below w.heap.size w (wr.iterAt w.heap.size s (pos+D2))):=Lib.below_iterAt gM.o (Nat.le_refl _) s (pos+D2);have ep:(wr.iterAt w.heap.size s (pos+D2)).heap.size=wr.heap.size:=Lib.iterAt_size _ _ _ _;have Un:=zh O4;have ux:=zh FO;have HBD:=zh L6;have HZ:=zh hz;have TV:=zh ep;have Db:=zh RH;have Og:=zh hit;clear O4 FO L6 hz hD ep RH hit;by_cases h0:D1=0
      · have HF:Hd (r=false):=by have h1:=Lm.o;rw [HZ.o h0] at h1;exact h1.symm
        subst h0;go_wp2_with fail;go_ret;exact ⟨by rw [HF.o];rfl,aE.o⟩
      · have ea:(((D1:Nat):Int) == 0)=false:=by simpa using h0
        have H8:=zh h0;by_cases h1:D1=65533
        · have mA:(((D1:Nat):Int) == 65533)=true:=by rw [h1];rfl
          have pe:Lib.decodeGo (s.extract pos s.size)=(D1,D2):=by
            unfold Lib.decodeGo;rw [if_neg (by rw [ByteArray.size_extract];omega),Un.o]
          have Z8:Hd (∀ W,Below w.heap.size w W→Calls prog 105 #[.string (s.extract pos s.size)] W fun e w'=>e = .returned (.tuple #[.int .i32 (D1:Int),.int .i64 (D2:Int)])∧Below W.heap.size W w'):=fun W h=>by
            have:=Tryz.utf8_DecodeRuneInString (s.extract pos s.size) W (HTB.o W h);rw [pe] at this;exact this
          have Vs:=zh h1;clear h0 h1 pe;by_cases h2:D2=1
          · have HF:Hd (r=false):=by have h3:=Lm.o;rw [HBD.o (by rw [Vs.o,h2])] at h3;exact h3.symm
            (have hd2:(((D2:Nat):Int) == 1)=true:=by rw [h2];rfl);clear h2;go_wp2_with (go_at_call 105;refine (Z8.o _ aE.o).mono ?_;rintro e w5 ⟨rfl,dz⟩);go_ret;exact ⟨by rw [HF.o];rfl,aE.o.trans (dz.mono aE.o.size)⟩
          · have HF:Hd (gp s f (pos+D2)=r):=by have h3:=Lm.o;rw [ux.o H8.o (by intro e;cases e;exact h2 rfl)] at h3;exact h3
            have hd2:(((D2:Nat):Int) == 1)=false:=by
              cases e:(((D2:Nat):Int) == 1) with
              | false=>rfl
              | true=>exact absurd (by have:=beq_iff_eq.1 e;omega) h2
            clear h2;go_wp2_with (go_at_call 105;refine (Z8.o _ aE.o).mono ?_;rintro e w5 ⟨rfl,dz⟩);have RG:w5.heap[w.heap.size]? = some (.stringIter s (pos+D2)):=(dz.block w.heap.size (by rw [TV.o];exact je)).trans Db.o
            go_roundw
            case rel=>exact ⟨pos+D2,f,RG,aE.o.trans (dz.mono aE.o.size),HF.o,by omega,hw.2⟩
            case measure=>
              simp only [World.iterPos,RG,Og.o];omega
        · have mA:(((D1:Nat):Int) == 65533)=false:=by
            cases e:(((D1:Nat):Int) == 65533) with
            | false=>rfl
            | true=>exact absurd (by have:=beq_iff_eq.1 e;omega) h1
          (have HF:Hd (gp s f (pos+D2)=r):=by have h3:=Lm.o;rw [ux.o H8.o (by intro e;cases e;exact h1 rfl)] at h3;exact h3);clear h0 h1;go_wp2_with fail
          go_roundw
          case rel=>exact ⟨pos+D2,f,Db.o,aE.o,HF.o,by omega,hw.2⟩
          case measure=>
            simp only [World.iterPos,Db.o,Og.o];omega
    · have HF:Hd (r=true):=by have h1:=Lm.o;rw [AU hp] at h1;exact h1.symm
      have kR:∀ ty,(Instr.next (.pointer (some ⟨w.heap.size,0,none⟩)) true ty).run prog wr = .ok (.tuple #[.bool false]) wr:=fun ty=>Lib.run_next_end_at wr w.heap.size s pos ty hit hp;clear hit;go_wp2_with fail;go_ret;exact ⟨by rw [HF.o];rfl,gM.o⟩
def Nb:Except Int (List Tk)→Except (Int×Int) (List Tk)
  | .error p=>.error (3,p)
  | .ok l=>.ok l
def ee (s:ByteArray):Except (Int×Int) (List Tk):=
  if 65536<s.size∨gp s s.size 0=false then .error (2,0) else Nb (aX (s.size+1) s.data.toList 0 [])
set_option maxRecDepth 100000
set_option maxHeartbeats 4000000
theorem Lr (v:Value) (w:World):(Instr.typeAssert (.iface 92 v) 20 92 true).run prog w = .ok (.tuple #[v,.bool true]) w:=by kernel_rfl
section
variable {w:World} {A B:Nat}
def Is:Array Value:=#[.string ⟨#[]⟩,.int .i64 0,.slice none 0 0,.slice none 0 0]
def M1 (w:World) (a b:Nat) (pv:Int) (w':World):Prop:=∃ g,w.heap.size≤g∧aj w' g 83 Is∧aj w' a 79 #[.pointer (some ⟨g,0,none⟩)]∧aj w' b 27 #[.int .i64 3,.string ⟨#[]⟩,.int .i64 pv]∧ay (fun k=>k=a∨k=b) w w'
theorem Mp {a b:Nat} {pv:Int} {M':List PanicEntry} {A':Option Addr} (ha:aj w a 79 #[.pointer A']) (hb:aj w b 27 #[.int .i64 0,.string ⟨#[]⟩,.int .i64 0]) (Ii:a≠b) :
    CallsD prog 82 #[.pointer (some ⟨a,0,none⟩),.pointer (some ⟨b,0,none⟩)] (.panicking ({ v:=.iface 92 (.agg #[.int .i64 3,.string ⟨#[]⟩,.int .i64 pv]),recovered:=false } :: M')) w fun e u' w'=>
      e = .returned (.tuple #[])∧u' = .panicking ({ v:=.iface 92 (.agg #[.int .i64 3,.string ⟨#[]⟩,.int .i64 pv]),recovered:=true } :: M')∧M1 w a b pv w':=by
  refine callsD_of_wpS func82 rfl fun c₀ cs hu=>?_;apply wpS_seq;apply wpS_region;simp [wpOpsS,go_sem,recoverD,hu,ntmps82,Exit.thenS];apply wpS_seq;apply wpS_region;simp [wpOpsS,go_sem,Exit.thenS];refine wpS_cond (t:=true) (by simp [Act.eval,Array.replicate]) ?_;simp only [if_true];refine wpS_of_wp ?_;have HA:=zh ha;have HB:=zh hb;have qa:=ha.cell 0;have Wa:=hb.cell 0;have V_:=hb.cell 1;have Q2:=hb.cell 2;simp at qa Wa V_ Q2;have qaf:=ha.frozen;have qbf:=hb.frozen;have qal:=ha.lt;have qbl:=hb.lt;have Ww:=Lr;simp only [Array.replicate_succ,Array.replicate_zero,List.push_toArray,UC,UB,VB,List.append_toArray,List.nil_append,List.cons_append];go_wp2_with fail;clear Ww ha hb
  go_region
  all_goals
    go_wp2_with fail;refine ⟨rfl,_,rfl,_,results_none rfl _ _ _,rfl,rfl,w.heap.size+1,Nat.le_succ _,aj.new' (by simp),?_,?_,?_⟩
    · exact ((((((HA.o.put1 _).far1 Ii _).far1 Ii _).far1 Ii _).alloc _).alloc _)
    · have:=((((HB.o.far1 (o:=0) (Ne.symm Ii) (.pointer (some ⟨w.heap.size+1,0,none⟩))).set_ 0 (.int .i64 3)).set_ 1 (.string ⟨#[]⟩)).set_ 2 (.int .i64 pv))
      exact ((by simpa using this:aj _ b _ _).alloc _).alloc _
    · exact ((((((zb.set1 (.inr (.inl rfl)) _).set1 (.inr (.inr rfl)) _).set1 (.inr (.inr rfl)) _).set1 (.inr (.inr rfl)) _).alloc _).alloc _).drew
theorem ES {a b:Nat} :
    CallsD prog 82 #[.pointer (some ⟨a,0,none⟩),.pointer (some ⟨b,0,none⟩)] .returning w fun e u' w'=>e = .returned (.tuple #[])∧u' = .returning∧w'=w:=by
  refine callsD_of_wpS func82 rfl fun c₀ cs hu=>?_;apply wpS_seq;apply wpS_region;simp [wpOpsS,go_sem,recoverD,hu,ntmps82,Exit.thenS];apply wpS_seq;apply wpS_region;simp [wpOpsS,go_sem,Exit.thenS];refine wpS_cond (t:=false) (by simp [Act.eval,Array.replicate]) ?_;simp only [Bool.false_eq_true,if_false];refine wpS_of_wp (wp_skip ?_);cases c₀
  simp_all [bodyPostS,results,results82]
theorem FA {W:World} {a b:Nat} {v2 c0 c1 c2 x0 x1 x4 x5 x6 x7 x8 x9 uP uO M5 K6 K5 M4 Qk VM VK VJ VG VD VC:Value} (h:aj W a 79 #[v2]) (h':aj W b 27 #[c0,c1,c2]) :
    (results Tryz.f64 #[x0,x1,.pointer (some ⟨a,0,none⟩),.pointer (some ⟨b,0,none⟩),x4,x5,x6,x7,x8,x9,uP,uO,M5,K6,K5,M4,Qk,VM,VK,VJ,VG,VD,VC]).run prog W = .ok (.tuple #[v2,.agg #[c0,c1,c2]]) W:=by
  have c2:=h.cell 0;have we:=h'.cell 0;have v_:=h'.cell 1;have v8:=h'.cell 2;simp at c2 we v_ v8;simp [results,results64,go_sem,c2,we,v_,v8]
theorem rh {w:World} {base base':Nat} {e:TypeId} {size n:Nat} {v:Value} {xs:List Value} (h:w.ownsRow base e size v n xs) (hb:base'≤base):w.ownsRow base' e size v n xs:=
  ⟨h.1,h.2.imp id fun ⟨g,cap,cur,h1,h2,h3⟩=>⟨g,cap,cur,h1,Nat.le_trans hb h2,h3⟩⟩
theorem mK.low {base:Nat} {W:World} {g at_:Nat} {s:ByteArray} {l:List Tk} (h:mK base W g s at_ l) {p:Addr} (hp:p.block<base) (u:Value):mK base (W.setCell p u) g s at_ l:=by
  obtain ⟨A,c,R,m,d,xs,h1,h2,h3,h4,h5⟩:=h;exact ⟨A,c,R,m,d,xs,h1.far (by omega) u,ownsRow_setCell_below h2 hp u,ownsRow_setCell_below h3 hp u,h4,h5⟩
theorem mK.mono {base base':Nat} {W:World} {g at_:Nat} {s:ByteArray} {l:List Tk} (h:mK base W g s at_ l) (hb:base'≤base):mK base' W g s at_ l:=by
  obtain ⟨A,c,R,m,d,xs,h1,h2,h3,h4,h5⟩:=h;exact ⟨A,c,R,m,d,xs,h1,rh h2 hb,rh h3 hb,h4,Nat.le_trans hb h5⟩
def Mv (w:World) (s:ByteArray) (r:Except (Int×Int) (List Tk)) (e:Ending) (w':World):Prop:=
  Below w.heap.size w w'∧∃ g,w.heap.size≤g∧match r with
  | .error (c,p)=>e = .returned (.tuple #[.pointer (some ⟨g,0,none⟩),.agg #[.int .i64 c,.string ⟨#[]⟩,.int .i64 p]])∧aj w' g 83 Is
  | .ok l=>e = .returned (.tuple #[.pointer (some ⟨g,0,none⟩),.agg #[.int .i64 0,.string ⟨#[]⟩,.int .i64 0]])∧∃ q,mK w.heap.size w' g s q l
theorem wZ {s:ByteArray} (hs:s.size≤140737488355328) (hT:Lib.Utf8Tabs 0 1 w) (h3:3≤w.heap.size) {mm:Int} (n_:w.cell? ⟨2,0,none⟩=some (.int .i64 mm)) :
    Calls prog 64 #[.string s] w (Mv w s (ee s)):=by
  have UV:∀ (fn:Fn) (first cap:Array Value) (w:World),(Instr.makeFunc fn first cap).run prog w = .ok (.func fn first cap) w:=fun _ _ _ _=>rfl;obtain ⟨r,hr⟩:∃ r,ee s=r:=⟨_,rfl⟩;rw [hr];have HR:=zh hr;have HT:=zh hT;have Ay:=zh n_;clear hr hT n_;by_cases JH:65536<s.size
  · obtain rfl:r = .error (2,0):=by have h1:=HR.o;unfold ee at h1;rw [if_pos (.inl JH)] at h1;exact h1.symm
    have R5:(65536:Int)<(s.size:Int):=by omega
    go_enter_defers func64,ntmps64
    go_wp2_with fail;simp [bodyPostD,Leaves,results,results64,go_sem];exact ⟨(((Below.refl _ _).alloc (Nat.le_refl _) _).alloc (by simp) _).alloc (by simp;omega) _,_,by omega,rfl,aj.new' (by simp)⟩
  (have R5:decide ((65536:Int)<(s.size:Int))=false:=by simp;omega);(have U4:decide (65536<s.size)=false:=by simp;omega);have Y2:¬ 65536<s.size:=JH;have R3:¬ (65536:Int)<(s.size:Int):=by omega
  go_enter_defers func64,ntmps64
  go_wp2_with fail;refine (AR hs (Utf8Tabs_below HT.o (((Below.refl _ _).alloc (Nat.le_refl _) _).alloc (by simp) _))).mono ?_;rintro e w1 ⟨rfl,cB⟩
  generalize sG:((w.alloc _).alloc _)=W0 at cB
  (have DX:W0.heap.size=w.heap.size+2:=by subst sG;simp);have kb:Hd (Below w.heap.size w w1):=zh (Below.trans (by subst sG;exact (((Below.refl _ _).alloc (Nat.le_refl _) _).alloc (by simp) _)) (cB.mono (by omega)));(have cK:Hd (aj w1 w.heap.size 79 #[.pointer none]):=by subst sG;exact zh ((aj.alloc (aj.new _ _ _) _).below cB (by simp;omega)));(have jG:Hd (aj w1 (w.heap.size+1) 27 #[.int .i64 0,.string ⟨#[]⟩,.int .i64 0]):=by subst sG;exact zh ((aj.new' (by simp)).below cB (by simp)));(have Jr:w.heap.size+2≤w1.heap.size:=by have:=cB.size;omega);(have kB:w.heap.size<w1.heap.size:=by omega);(have D9:w.heap.size+1<w1.heap.size:=by omega);have G0:=cK.o.cell 0;have jf:=cK.o.frozen;have Ee:=jG.o.cell 0;have Ed:=jG.o.cell 1;have Ec:=jG.o.cell 2;have iL:=jG.o.frozen;simp at G0 Ee Ed Ec;clear cB sG DX W0;cases hv:gp s s.size 0
  · obtain rfl:r = .error (2,0):=by have h1:=HR.o;unfold ee at h1;rw [if_pos (.inr hv)] at h1;exact h1.symm
    go_wp2_with fail;refine ⟨_,FA ((((cK.o.put1 _).far1 (by omega) _).far1 (by omega) _).far1 (by omega) _ |>.alloc _) ((((jG.o.far1 (by omega) _).set_ 0 _).set_ 1 _).set_ 2 _ |>.alloc _),?_⟩;exact ⟨((((kb.o.setCell (Nat.le_refl _) _).setCell (Nat.le_succ _) _).setCell (Nat.le_succ _) _).setCell (Nat.le_succ _) _).alloc (by simp;omega) _,_,by omega,rfl,aj.new' (by simp)⟩
  · have HV:=zh hv
    clear hv;go_wp2_with fail;obtain ⟨q,hq⟩:∃ q,aX (s.size+1) s.data.toList 0 []=q:=⟨_,rfl⟩
    have BI:r=Nb q:=by
      have h1:=HR.o;unfold ee at h1;rw [if_neg (fun h=>h.elim Y2 (fun h=>by rw [HV.o] at h;cases h)),hq] at h1;exact h1.symm
    have HQ:=zh hq;have hg:aj ((w1.setCell ⟨w.heap.size,0,none⟩ (.pointer (some ⟨w1.heap.size,0,none⟩))).alloc (.cells #[.string s,.int .i64 0,.slice none 0 0,.slice none 0 0] 83)) w1.heap.size 83 #[.string s,.int .i64 0,.slice none 0 0,.slice none 0 0]:=aj.new' (by simp);have fT:aj ((w1.setCell ⟨w.heap.size,0,none⟩ (.pointer (some ⟨w1.heap.size,0,none⟩))).alloc (.cells #[.string s,.int .i64 0,.slice none 0 0,.slice none 0 0] 83)) w.heap.size 79 #[.pointer (some ⟨w1.heap.size,0,none⟩)]:=(cK.o.put1 _).alloc _;have GW:aj ((w1.setCell ⟨w.heap.size,0,none⟩ (.pointer (some ⟨w1.heap.size,0,none⟩))).alloc (.cells #[.string s,.int .i64 0,.slice none 0 0,.slice none 0 0] 83)) (w.heap.size+1) 27 #[.int .i64 0,.string ⟨#[]⟩,.int .i64 0]:=(jG.o.far1 (by omega) _).alloc _;have iw:Below w.heap.size w ((w1.setCell ⟨w.heap.size,0,none⟩ (.pointer (some ⟨w1.heap.size,0,none⟩))).alloc (.cells #[.string s,.int .i64 0,.slice none 0 0,.slice none 0 0] 83)):=(kb.o.setCell (Nat.le_refl _) _).alloc (by simp;omega) _;have Wx:((w1.setCell ⟨w.heap.size,0,none⟩ (.pointer (some ⟨w1.heap.size,0,none⟩))).alloc (.cells #[.string s,.int .i64 0,.slice none 0 0,.slice none 0 0] 83)).heap.size=w1.heap.size+1:=by simp
    generalize hW:((w1.setCell ⟨w.heap.size,0,none⟩ (.pointer (some ⟨w1.heap.size,0,none⟩))).alloc (.cells #[.string s,.int .i64 0,.slice none 0 0,.slice none 0 0] 83))=W at hg fT GW iw Wx
    (try rw [hW])
    clear hW;refine (Do (base:=w1.heap.size) ⟨none,0,none,0,0,[],⟨hg,World.ownsRow_nil _ _ _ _,World.ownsRow_nil _ _ _ _,Nat.le_refl _,Nat.le_refl _⟩⟩ (Nat.le_of_not_lt Y2) (by omega) (by omega) (mm:=mm) (by rw [iw.cell (p:=⟨2,0,none⟩) (by show 2<_;omega)];exact Ay.o)).mono ?_;rintro e w3 ⟨dB,WE⟩;rw [hq] at WE;clear hq;have Jz:aj w3 w.heap.size 79 #[.pointer (some ⟨w1.heap.size,0,none⟩)]:=fT.below dB (by omega);have D_:aj w3 (w.heap.size+1) 27 #[.int .i64 0,.string ⟨#[]⟩,.int .i64 0]:=GW.below dB (by omega);have l5:Below w.heap.size w w3:=iw.trans (dB.mono (by omega));have hsz3:=dB.size;cases q with
    | error p=>
      subst BI;obtain rfl:=WE;refine leaves_cons (f:=82) (args:=#[.pointer (some ⟨w.heap.size,0,none⟩),.pointer (some ⟨w.heap.size+1,0,none⟩)]) (by simp) (by simp [go_sem]) ?_;refine (Mp Jz D_ (by omega)).mono ?_;rintro e u' w4 ⟨rfl,rfl,g,L3,JB,L2,Xa,hg5⟩;have c2:=L2.cell 0;have we:=Xa.cell 0;have v_:=Xa.cell 1;have v8:=Xa.cell 2;simp at c2 we v_ v8;simp [Leaves,settle,results,results64,go_sem,c2,we,v_,v8];exact ⟨l5.trans (hg5.below (fun i _ hi=>by rcases hi with rfl | rfl <;> omega) (by omega)),g,by omega,rfl,JB⟩
    | ok l=>
      subst BI;obtain ⟨rfl,q,hS⟩:=WE;have c2:=Jz.cell 0;have we:=D_.cell 0;have v_:=D_.cell 1;have v8:=D_.cell 2;have f2:=Jz.frozen;have f3:=D_.frozen;have l2:=Jz.lt;have l3:=D_.lt;simp at c2 we v_ v8;have HS:=zh hS;clear hS fT GW hg;go_wp2_with fail;clear c2 we v_ v8 f2 f3 l2 l3;refine leaves_cons (f:=82) (args:=#[.pointer (some ⟨w.heap.size,0,none⟩),.pointer (some ⟨w.heap.size+1,0,none⟩)]) (by simp) (by simp [go_sem]) ?_;refine ES.mono ?_;rintro e u' w4 ⟨rfl,rfl,rfl⟩;refine ⟨_,FA ((((Jz.put1 _).far1 (by omega) _).far1 (by omega) _).far1 (by omega) _) ((((D_.far1 (by omega) _).set_ 0 _).set_ 1 _).set_ 2 _),?_⟩;exact ⟨(((l5.setCell (Nat.le_refl _) _).setCell (Nat.le_succ _) _).setCell (Nat.le_succ _) _).setCell (Nat.le_succ _) _,_,by omega,rfl,q,mK.mono ((((HS.o.low (by simp;omega) _).low (by simp;omega) _).low (by simp;omega) _).low (by simp;omega) _) (by omega)⟩
theorem FB {W:World} {b:Nat} {v c0 c1 c2 x0 x1 x4 x5 x6 x7 x8 x9 uP uO M5 K6 K5 M4:Value} (h':aj W b 27 #[c0,c1,c2]) :
    (results Tryz.f31 #[x0,x1,v,.pointer (some ⟨b,0,none⟩),x4,x5,x6,x7,x8,x9,uP,uO,M5,K6,K5,M4]).run prog W = .ok (.tuple #[v,.agg #[c0,c1,c2]]) W:=by
  have we:=h'.cell 0;have v_:=h'.cell 1;have v8:=h'.cell 2;simp at we v_ v8;simp [results,results31,go_sem,we,v_,v8]
def J7 (w:World) (r:Except (Int×Int) (List Tk)) (e:Ending) (w':World):Prop:=
  Below w.heap.size w w'∧match r with
  | .error (c,p)=>e = .returned (.tuple #[.slice none 0 0,.agg #[.int .i64 c,.string ⟨#[]⟩,.int .i64 p]])
  | .ok l=>∃ A c,e = .returned (.tuple #[.slice A l.length c,.agg #[.int .i64 0,.string ⟨#[]⟩,.int .i64 0]])∧w'.ownsRow w.heap.size 36 4 (.slice A l.length c) l.length (eg l)
theorem yQ {s:ByteArray} (hs:s.size≤140737488355328) (hT:Lib.Utf8Tabs 0 1 w) (h3:3≤w.heap.size) {mm:Int} (n_:w.cell? ⟨2,0,none⟩=some (.int .i64 mm)) :
    Calls prog 31 #[.string s] w (J7 w (ee s)):=by
  obtain ⟨r,hr⟩:∃ r,ee s=r:=⟨_,rfl⟩;rw [hr];have HR:=zh hr;have HT:=zh hT;have Ay:=zh n_;clear hr hT n_;go_enter func31,ntmps31;go_wp2_with fail;refine (wZ hs (Utf8Tabs_below HT.o ((Below.refl _ _).alloc (Nat.le_refl _) _)) (by simp;omega) (mm:=mm) (by rw [((Below.refl _ _).alloc (Nat.le_refl _) _:Below w.heap.size w _).cell (p:=⟨2,0,none⟩) (by show 2<_;omega)];exact Ay.o)).mono ?_;rintro e w1 ⟨cB,g,hg,ua⟩;rw [HR.o] at ua;have kb:Hd (Below w.heap.size w w1):=zh (((Below.refl _ _).alloc (Nat.le_refl _) _).trans (cB.mono (by simp)));have jG:Hd (aj w1 w.heap.size 27 #[.int .i64 0,.string ⟨#[]⟩,.int .i64 0]):=zh ((aj.new _ _ _).below cB (by simp));have Jr:=cB.size;simp at Jr hg;(have D9:w.heap.size<w1.heap.size:=by omega);have Ee:=jG.o.cell 0;have Ed:=jG.o.cell 1;have Ec:=jG.o.cell 2;have iL:=jG.o.frozen;simp at Ee Ed Ec;have sX:=zh ua;clear cB ua;cases r with
  | error cp=>
    obtain ⟨c,p⟩:=cp;have ua:=sX.o;obtain ⟨rfl,hZ⟩:=ua;have Xe:=hZ.cell 2;have ya:=hZ.lt;simp [Is] at Xe;clear sX hZ;go_wp2_with fail
    go_region
    all_goals
      go_wp2_with fail;refine bodyPost_ret (FB (((jG.o.set_ 0 _).set_ 1 _).set_ 2 _ |>.alloc _).drew) rfl ?_;exact ⟨((((kb.o.setCell (Nat.le_refl _) _).setCell (Nat.le_refl _) _).setCell (Nat.le_refl _) _).alloc (by simp;omega) _).drew,rfl⟩
  | ok l=>
    have ua:=sX.o;obtain ⟨rfl,q,A,c,R,m,d,xs,hm⟩:=ua;have Xe:=hm.blk.cell 2;have ya:=hm.blk.lt;simp at Xe;have HM:=zh hm;clear sX hm;go_wp2_with fail
    go_region
    all_goals
      go_wp2_with fail;refine bodyPost_ret (FB (((jG.o.set_ 0 _).set_ 1 _).set_ 2 _ |>.alloc _).drew) rfl ?_;refine ⟨((((kb.o.setCell (Nat.le_refl _) _).setCell (Nat.le_refl _) _).setCell (Nat.le_refl _) _).alloc (by simp;omega) _).drew,A,c,rfl,?_⟩;have fs:w.heap.size<w.heap.size+1:=Nat.lt_succ_self _;exact rh ((ownsRow_setCell_below (ownsRow_setCell_below (ownsRow_setCell_below HM.o.tok (by simp) _) (by simp) _) (by simp) _).alloc _) (by simp)
end
structure C2 (n:Nat) (l:List Tk):Prop where
  ex:∃ m z,l=m ++ [z]∧z.k=7∧(∀ t ∈ m,t.k≠7)∧m.length≤n
theorem sO {l:List Tk} {z:Tk} (h:∀ t ∈ l,t.k≠7) (hz:z.k≠7):∀ t ∈ l ++ [z],t.k≠7:=by
  intro t ht;rcases List.mem_append.1 ht with ht | ht
  · exact h t ht
  · simp only [List.mem_singleton] at ht
    subst ht;exact hz
theorem zx {p:Int} {l:List Tk} (h:∀ t ∈ l,t.k≠7):∀ t ∈ bB p l,t.k≠7:=by
  unfold bB
  repeat' split
  all_goals first | exact h | exact sO h (fun e=>absurd (show (6:Int)=7 from e) (by decide))
theorem pm {c:UInt8} {t:List UInt8} {n f:Nat} (hn:1≤n) (h:(c :: t).length<f+1):((c :: t).drop n).length<f:=by
  rw [List.length_drop];simp only [List.length_cons] at h ⊢;omega
theorem ik:∀ (f:Nat) (r:List UInt8) (p:Nat) (l:List Tk) {l':List Tk},r.length<f→(∀ t ∈ l,t.k≠7)→aX f r p l = .ok l'→C2 (l.length+r.length+1) l'
  | 0,r,p,l,l',hf,hl,h=>absurd hf (Nat.not_lt_zero _)
  | f+1,[],p,l,l',hf,hl,h=>by
    have h:Except.ok (bB p l ++ [⟨7,p,p,⟨#[]⟩⟩])=(Except.ok l':Except Int (List Tk)):=h;cases h;exact ⟨_,_,rfl,rfl,zx hl,by have:=fE p l;simp;omega⟩
  | f+1,c :: t,p,l,l',hf,hl,h=>by
    have fs:t.length<f:=by simpa using hf
    have up:∀ {n k:Nat} {l2:List Tk},l2.length≤l.length+1→1≤k→C2 (l2.length+((c :: t).drop k).length+1) l'→C2 (l.length+(c :: t).length+1) l':=by
      rintro n k l2 h1 h2 ⟨m,z,e1,e2,e3,e4⟩;refine ⟨m,z,e1,e2,e3,?_⟩;rw [List.length_drop] at e4;simp only [List.length_cons] at e4 ⊢;omega
    have VV:∀ {l2:List Tk},l2.length≤l.length+1→C2 (l2.length+t.length+1) l'→C2 (l.length+(c :: t).length+1) l':=by
      rintro l2 h1 ⟨m,z,e1,e2,e3,e4⟩;exact ⟨m,z,e1,e2,e3,by simp only [List.length_cons];omega⟩
    (have QB:∀ z:Tk,(l ++ [z]).length≤l.length+1:=fun z=>by simp);unfold aX at h;split at h
    · exact VV (fE p l) (ik f t _ _ fs (zx hl) h)
    split at h
    · exact VV (Nat.le_succ _) (ik f t _ _ fs hl h)
    split at h
    · rename_i Ik
      cases hr:dK (c :: t) with
      | none=>rw [hr] at h;cases h
      | some n=>
        rw [hr] at h;simp only at h;have hb:=(lF hr ⟨t,by rw [Ik.1]⟩).1;by_cases h3:0≤Lib.indexByte ((c :: t).take n) 10
        · rw [if_pos h3] at h
          exact up (n:=0) (fE p l) hb (ik f _ _ _ (pm hb hf) (zx hl) h)
        · rw [if_neg h3] at h
          exact up (n:=0) (Nat.le_succ _) hb (ik f _ _ _ (pm hb hf) hl h)
    split at h
    · cases h
    split at h
    · rename_i hn
      exact up (n:=0) (QB _) hn (ik f _ _ _ (pm hn hf) (sO hl (fun e=>by have e:(if j7 (bs ((c :: t).take (dq (c :: t))))=true then (4:Int) else 1)=7:=e;split at e <;> revert e <;> decide)) h)
    split at h
    · rename_i hd
      cases hr:gl (c :: t) with
      | none=>rw [hr] at h;cases h
      | some n=>
        rw [hr] at h;simp only at h;have hb:=(rj hr hd).1;exact up (n:=0) (QB _) hb (ik f _ _ _ (pm hb hf) (sO hl (fun e=>absurd (show (2:Int)=7 from e) (by decide))) h)
    split at h
    · cases hr:bP p t (p+1) [] with
      | error e=>rw [hr] at h;cases h
      | ok qt=>
        obtain ⟨q,tx⟩:=qt;rw [hr] at h;simp only at h;(have hb:1≤q - p:=by have:=dE t (p+1) [] hr;omega);exact up (n:=0) (QB _) hb (ik f _ _ _ (pm hb hf) (sO hl (fun e=>absurd (show (3:Int)=7 from e) (by decide))) h)
    split at h
    · exact VV (QB _) (ik f t _ _ fs (sO hl (fun e=>absurd (show (6:Int)=7 from e) (by decide))) h)
    split at h
    · cases h
    · rename_i hs
      have hb:1≤ce (bs (c :: t)):=Nat.one_le_iff_ne_zero.2 hs;exact up (n:=0) (QB _) hb (ik f _ _ _ (pm hb hf) (sO hl (fun e=>absurd (show (5:Int)=7 from e) (by decide))) h)
theorem C2.wt {n:Nat} {l:List Tk} (h:C2 n l):WT l∧Str.WT l∧0<l.length∧l.length≤n+1:=by
  obtain ⟨m,z,rfl,h1,h2,h3⟩:=h
  have key:∀ i,i<(m ++ [z]).length→(ap (m ++ [z]) i).k≠7→i+1<(m ++ [z]).length:=by
    intro i hi hk;rw [List.length_append,List.length_singleton] at hi ⊢;rcases Nat.lt_or_ge i m.length with h | h
    · omega
    · exfalso
      apply hk;(have:i=m.length:=by omega);subst this;unfold ap;simp [h1]
  exact ⟨⟨key⟩,⟨key⟩,by simp,by simpa using h3⟩
theorem jK {s:ByteArray} {l:List Tk} (h:ee s = .ok l):s.size≤65536∧C2 (s.size+1) l:=by
  unfold ee at h;split at h
  · cases h
  · rename_i hn
    cases hq:aX (s.size+1) s.data.toList 0 [] with
    | error p=>rw [hq] at h;cases h
    | ok l2=>
      rw [hq] at h;cases h;(have eN:s.data.toList.length=s.size:=by rw [Array.length_toList];rfl);have:=ik _ _ _ _ (by omega) (by simp) hq;rw [eN] at this;exact ⟨by by_cases h:65536<s.size;exact absurd (.inl h) hn;omega,by simpa using this⟩
end Go.Proofs.YtfmgdmeopakdaaaGreatDoor
