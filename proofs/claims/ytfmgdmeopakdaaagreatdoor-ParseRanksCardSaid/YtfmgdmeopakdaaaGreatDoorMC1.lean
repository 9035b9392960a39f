/- ScW ScA FlW FlS ScE ScT ScN ScR ScL ScV ScTk ScWt PaRd PaFv RkP RkQ RkB RkV LwA RkW RkRd: parts of one proof. -/
import Derived.Test.YtfmgdmeopakdaaaGreatDoorMB1
import Derived.Test.YtfmgdmeopakdaaaGreatDoorMS1
import Derived.Test.YtfmgdmeopakdaaaGreatDoorMD1
import Derived.Laws.IdiomStrings
import Derived.Laws.BytesArg
import Derived.WalkMore
import Derived.ScopeJumps
import Derived.Test.YtfmgdmeopakdaaaGreatDoorMP1
import Derived.Test.YtfmgdmeopakdaaaGreatDoorProg
import Derived.Lib.DecodeN
import Derived.Lib.OthersKept
import Derived.Shelf.Unicode.DecodeSlow
import Derived.LoopTactic
import Derived.Recover
import Derived.Test.YtfmgdmeopakdaaaGreatDoorMB4
import Derived.Test.YtfmgdmeopakdaaaGreatDoorMB5
import Derived.Laws.EntriesVeiled
import Derived.Laws.RangeString
import Derived.Test.YtfmgdmeopakdaaaGreatDoorMR1
set_option linter.unusedVariables false
set_option linter.unusedSimpArgs false
namespace Go.Proofs.YtfmgdmeopakdaaaGreatDoor
open Go Go.RowKit
set_option maxRecDepth 100000
set_option maxHeartbeats 4000000
theorem word_calls {s:ByteArray} {w:World}:Calls Tryz.prog 111 #[.string s] w fun e w'=>e = .returned (.bool (wordB s))∧w'=w:=by
  by_cases h:wordB s=true
  · rw [h]
    have hm:=memB_true h;clear h;simp only [wordsL,List.mem_cons,List.not_mem_nil,or_false] at hm
    rcases hm with rfl | rfl | rfl | rfl | rfl | rfl | rfl | rfl | rfl | rfl | rfl | rfl | rfl | rfl | rfl | rfl | rfl | rfl | rfl | rfl | rfl | rfl | rfl | rfl | rfl <;>
      (go_enter Tryz.func111,Tryz.ntmps111
       go_wp2_with fail;go_ret
       exact ⟨rfl,rfl⟩)
  · replace h:=Bool.eq_false_iff.2 h
    rw [h];have e0:(s.toList == [98,114,101,97,107])=false:=tl_ne (memB_false h (by simp [wordsL]));have e1:(s.toList == [99,97,115,101])=false:=tl_ne (memB_false h (by simp [wordsL]));have e2:(s.toList == [99,104,97,110])=false:=tl_ne (memB_false h (by simp [wordsL]));have e3:(s.toList == [99,111,110,115,116])=false:=tl_ne (memB_false h (by simp [wordsL]));have e4:(s.toList == [99,111,110,116,105,110,117,101])=false:=tl_ne (memB_false h (by simp [wordsL]));have e5:(s.toList == [100,101,102,97,117,108,116])=false:=tl_ne (memB_false h (by simp [wordsL]));have e6:(s.toList == [100,101,102,101,114])=false:=tl_ne (memB_false h (by simp [wordsL]));have e7:(s.toList == [101,108,115,101])=false:=tl_ne (memB_false h (by simp [wordsL]));have e8:(s.toList == [102,97,108,108,116,104,114,111,117,103,104])=false:=tl_ne (memB_false h (by simp [wordsL]));have e9:(s.toList == [102,111,114])=false:=tl_ne (memB_false h (by simp [wordsL]));have e10:(s.toList == [102,117,110,99])=false:=tl_ne (memB_false h (by simp [wordsL]));have e11:(s.toList == [103,111])=false:=tl_ne (memB_false h (by simp [wordsL]));have e12:(s.toList == [103,111,116,111])=false:=tl_ne (memB_false h (by simp [wordsL]));have e13:(s.toList == [105,102])=false:=tl_ne (memB_false h (by simp [wordsL]));have e14:(s.toList == [105,109,112,111,114,116])=false:=tl_ne (memB_false h (by simp [wordsL]));have e15:(s.toList == [105,110,116,101,114,102,97,99,101])=false:=tl_ne (memB_false h (by simp [wordsL]));have e16:(s.toList == [109,97,112])=false:=tl_ne (memB_false h (by simp [wordsL]));have e17:(s.toList == [112,97,99,107,97,103,101])=false:=tl_ne (memB_false h (by simp [wordsL]));have e18:(s.toList == [114,97,110,103,101])=false:=tl_ne (memB_false h (by simp [wordsL]));have e19:(s.toList == [114,101,116,117,114,110])=false:=tl_ne (memB_false h (by simp [wordsL]));have e20:(s.toList == [115,101,108,101,99,116])=false:=tl_ne (memB_false h (by simp [wordsL]));have e21:(s.toList == [115,116,114,117,99,116])=false:=tl_ne (memB_false h (by simp [wordsL]));have e22:(s.toList == [115,119,105,116,99,104])=false:=tl_ne (memB_false h (by simp [wordsL]))
    have e23:(s.toList == [116,121,112,101])=false:=tl_ne (memB_false h (by simp [wordsL]));have e24:(s.toList == [118,97,114])=false:=tl_ne (memB_false h (by simp [wordsL]));clear h;go_enter Tryz.func111,Tryz.ntmps111;go_wp2_with fail;go_ret;exact ⟨rfl,rfl⟩
theorem endsX_calls {t:Tk} {w:World} {r:Bool} (hr:endsT t=r):Calls Tryz.prog 145 #[tokV t] w fun e w'=>e = .returned (.bool r)∧Below w.heap.size w w':=by
  obtain ⟨k,fr,to_,tx⟩:=t;simp only [tokV];have hb:=below_al w (.cells #[.int .i64 k,.int .i64 fr,.int .i64 to_,.string tx] 36);have HB:=zh hb;have hB:=Blk.new w 36 #[.int .i64 k,.int .i64 fr,.int .i64 to_,.string tx];obtain ⟨q0,q1,q2,q3,qf,ql⟩:=hB.cells4;clear hb hB q1 q2;simp only [endsT] at hr;by_cases h1:k=1
  · subst h1
    (obtain rfl:r=true:=by rw [← hr];simp);clear hr;go_enter Tryz.func145,Tryz.ntmps145;go_wp2_with fail;go_ret;exact ⟨rfl,HB.out⟩
  by_cases h2:k=2
  · subst h2
    (obtain rfl:r=true:=by rw [← hr];simp);clear hr;go_enter Tryz.func145,Tryz.ntmps145;go_wp2_with fail;go_ret;exact ⟨rfl,HB.out⟩
  by_cases h3:k=3
  · subst h3
    (obtain rfl:r=true:=by rw [← hr];simp);clear hr;go_enter Tryz.func145,Tryz.ntmps145;go_wp2_with fail;go_ret;exact ⟨rfl,HB.out⟩
  (have f1:(k == 1)=false:=by simpa using h1);(have f2:(k == 2)=false:=by simpa using h2);(have f3:(k == 3)=false:=by simpa using h3);rw [decide_eq_false h1,decide_eq_false h2,decide_eq_false h3] at hr;clear h1 h2 h3;by_cases h4:k=4
  · subst h4
    simp only [Bool.false_or,decide_true,Bool.true_and,show decide ((4:Int)=5)=false from rfl,Bool.false_and,Bool.or_false] at hr;by_cases h:memB [⟨#[98,114,101,97,107]⟩,⟨#[99,111,110,116,105,110,117,101]⟩,⟨#[114,101,116,117,114,110]⟩] tx=true
    · rw [h] at hr
      subst hr;have hm:=memB_true h;clear h;simp only [List.mem_cons,List.not_mem_nil,or_false] at hm
      rcases hm with rfl | rfl | rfl <;>
        (
         go_enter Tryz.func145,Tryz.ntmps145;go_wp2_with fail;go_ret
         exact ⟨rfl,HB.out⟩)
    · replace h:=Bool.eq_false_iff.2 h
      rw [h] at hr;subst hr;have e0:(tx.toList == [98,114,101,97,107])=false:=tl_ne (memB_false h (by simp));have e1:(tx.toList == [99,111,110,116,105,110,117,101])=false:=tl_ne (memB_false h (by simp));have e2:(tx.toList == [114,101,116,117,114,110])=false:=tl_ne (memB_false h (by simp));clear h;go_enter Tryz.func145,Tryz.ntmps145;go_wp2_with fail;go_ret;exact ⟨rfl,HB.out⟩
  (have f4:(k == 4)=false:=by simpa using h4);rw [decide_eq_false h4] at hr;clear h4;simp only [Bool.false_or,Bool.false_and] at hr;by_cases h5:k=5
  · subst h5
    simp only [decide_true,Bool.true_and] at hr;by_cases h:memB [⟨#[43,43]⟩,⟨#[45,45]⟩,⟨#[41]⟩,⟨#[93]⟩,⟨#[125]⟩] tx=true
    · rw [h] at hr
      subst hr;have hm:=memB_true h;clear h;simp only [List.mem_cons,List.not_mem_nil,or_false] at hm
      rcases hm with rfl | rfl | rfl | rfl | rfl <;>
        (
         go_enter Tryz.func145,Tryz.ntmps145;go_wp2_with fail;go_ret
         exact ⟨rfl,HB.out⟩)
    · replace h:=Bool.eq_false_iff.2 h
      rw [h] at hr;subst hr;have e0:(tx.toList == [43,43])=false:=tl_ne (memB_false h (by simp));have e1:(tx.toList == [45,45])=false:=tl_ne (memB_false h (by simp));have e2:(tx.toList == [41])=false:=tl_ne (memB_false h (by simp));have e3:(tx.toList == [93])=false:=tl_ne (memB_false h (by simp));have e4:(tx.toList == [125])=false:=tl_ne (memB_false h (by simp));clear h;go_enter Tryz.func145,Tryz.ntmps145;go_wp2_with fail;go_ret;exact ⟨rfl,HB.out⟩
  (have f5:(k == 5)=false:=by simpa using h5);rw [decide_eq_false h5] at hr;clear h5;simp only [Bool.false_and] at hr;subst hr;go_enter Tryz.func145,Tryz.ntmps145;go_wp2_with fail;go_ret;exact ⟨rfl,HB.out⟩
theorem ends_calls {t:Tk} {w:World}:Calls Tryz.prog 145 #[tokV t] w fun e w'=>e = .returned (.bool (endsT t))∧Below w.heap.size w w':=endsX_calls rfl
theorem sign_calls {s:ByteArray} {w:World} (h0:0<s.size) (hs:s.size≤140737488355328):Calls Tryz.prog 116 #[.string s] w fun e w'=>e = .returned (.int .i64 (signL s))∧w'=w:=by
  obtain ⟨r,hr⟩:∃ r,signL s=r:=⟨_,rfl⟩;rw [hr];(have hsi:(s.size:Int)≤140737488355328:=by omega);(have h0i:0<(s.size:Int):=by omega);unfold signL at hr;obtain ⟨c,hc⟩:∃ c,s[0]=c:=⟨_,rfl⟩
  have hcl:s.data.toList.headD 0=c:=by
    (have h1:0<s.data.toList.length:=by rw [Array.length_toList];exact h0);rw [List.headD_eq_head?_getD,List.head?_eq_getElem?,List.getElem?_eq_getElem h1,Array.getElem_toList];exact hc
  rw [hcl] at hr;clear hcl;obtain ⟨x,hx⟩:∃ x,s.extract 0 2=x:=⟨_,rfl⟩;rw [hx] at hr;have HX:=zh hx;have HC:=zh hc;have HP:Hid (∀ w,Calls Tryz.prog 108 #[.string s,.string ⟨#[46,46,46]⟩] w fun e w'=>e = .returned (.bool (Lib.hasPrefix s.data.toList [46,46,46]))∧w'=w):=zh fun w=>Tryz.strings_HasPrefix s ⟨#[46,46,46]⟩ w
  have HI:Hid (∀ w,Calls Tryz.prog 147 #[.string ⟨#[43,45,42,47,37,38,33,61,60,62,40,41,91,93,123,125,44,46,58,124]⟩,.int .u8 c.toNat] w fun e w'=>e = .returned (.int .i64 (Lib.indexByte onesL c))∧w'=w):=zh fun w=>by
    have:=Tryz.strings_IndexByte ⟨#[43,45,42,47,37,38,33,61,60,62,40,41,91,93,123,125,44,46,58,124]⟩ c.toNat w
    simpa [onesL] using this
  (have h1:¬ 1<s.size→x.size≤1:=fun h=>by rw [← hx,ByteArray.size_extract];omega);clear hx;by_cases hd:Lib.hasPrefix s.data.toList [46,46,46]=true
  · rw [if_pos hd] at hr
    subst hr;by_cases hl:1<s.size
    all_goals
      have hli:(decide ((s.size:Int)>1))=decide (1<s.size):=decide_eq_decide.2 (by omega);clear hc;go_enter Tryz.func116,Tryz.ntmps116;go_wp2_with fail;refine (HP.out _).mono ?_;rintro e w1 ⟨rfl,hw⟩;subst w1;rw [hd];go_wp2_with fail;go_ret;exact ⟨rfl,rfl⟩
  rw [if_neg hd] at hr;replace hd:=Bool.eq_false_iff.2 hd;by_cases hm:memB twosL x=true
  · rw [if_pos hm] at hr
    subst hr;replace hm:=memB_true hm;by_cases hl:1<s.size
    · have hx:=HX.out
      clear hc h1;simp only [twosL,List.mem_cons,List.not_mem_nil,or_false] at hm
      rcases hm with rfl | rfl | rfl | rfl | rfl | rfl | rfl | rfl | rfl | rfl | rfl | rfl | rfl | rfl | rfl <;>
        (go_enter Tryz.func116,Tryz.ntmps116
         go_wp2_with fail;refine (HP.out _).mono ?_;rintro e w1 ⟨rfl,hw⟩;subst w1;rw [hd];go_wp2_with fail;go_ret
         exact ⟨rfl,rfl⟩)
    · exfalso
      have h2:=h1 hl;simp only [twosL,List.mem_cons,List.not_mem_nil,or_false] at hm;rcases hm with rfl | rfl | rfl | rfl | rfl | rfl | rfl | rfl | rfl | rfl | rfl | rfl | rfl | rfl | rfl <;> exact absurd h2 (by decide)
  replace hm:=Bool.eq_false_iff.2 hm;rw [if_neg (by rw [hm];decide)] at hr;have h:=hm;clear hm;by_cases hl:1<s.size
  · have hx:=HX.out
    have e0:(x.toList == [38,38])=false:=tl_ne (memB_false h (by simp [twosL]));have e1:(x.toList == [124,124])=false:=tl_ne (memB_false h (by simp [twosL]));have e2:(x.toList == [61,61])=false:=tl_ne (memB_false h (by simp [twosL]));have e3:(x.toList == [33,61])=false:=tl_ne (memB_false h (by simp [twosL]));have e4:(x.toList == [60,61])=false:=tl_ne (memB_false h (by simp [twosL]));have e5:(x.toList == [62,61])=false:=tl_ne (memB_false h (by simp [twosL]));have e6:(x.toList == [58,61])=false:=tl_ne (memB_false h (by simp [twosL]));have e7:(x.toList == [43,61])=false:=tl_ne (memB_false h (by simp [twosL]));have e8:(x.toList == [45,61])=false:=tl_ne (memB_false h (by simp [twosL]));have e9:(x.toList == [42,61])=false:=tl_ne (memB_false h (by simp [twosL]));have e10:(x.toList == [47,61])=false:=tl_ne (memB_false h (by simp [twosL]));have e11:(x.toList == [37,61])=false:=tl_ne (memB_false h (by simp [twosL]));have e12:(x.toList == [43,43])=false:=tl_ne (memB_false h (by simp [twosL]));have e13:(x.toList == [45,45])=false:=tl_ne (memB_false h (by simp [twosL]));have e14:(x.toList == [60,45])=false:=tl_ne (memB_false h (by simp [twosL]));clear h h1;go_enter Tryz.func116,Tryz.ntmps116;go_wp2_with fail;refine (HP.out _).mono ?_;rintro e w1 ⟨rfl,hw⟩;subst w1;rw [hd];go_wp2_with fail;refine (HI.out _).mono ?_;rintro e w1 ⟨rfl,hw⟩;subst w1;by_cases hi:0≤Lib.indexByte onesL c
    · rw [if_pos hi] at hr
      subst hr;go_wp2_with fail;go_ret;exact ⟨rfl,rfl⟩
    · rw [if_neg hi] at hr
      subst hr;go_wp2_with fail;go_ret;exact ⟨rfl,rfl⟩
  · clear h h1
    go_enter Tryz.func116,Tryz.ntmps116;go_wp2_with fail;refine (HP.out _).mono ?_;rintro e w1 ⟨rfl,hw⟩;subst w1;rw [hd];go_wp2_with fail;refine (HI.out _).mono ?_;rintro e w1 ⟨rfl,hw⟩;subst w1;by_cases hi:0≤Lib.indexByte onesL c
    · rw [if_pos hi] at hr
      subst hr;go_wp2_with fail;go_ret;exact ⟨rfl,rfl⟩
    · rw [if_neg hi] at hr
      subst hr;go_wp2_with fail;go_ret;exact ⟨rfl,rfl⟩
def flatT (l:List Tk):List Value:=l.flatMap fun t=>[.int .i64 t.k,.int .i64 t.fr,.int .i64 t.to,.string t.tx]
theorem flatT_cons (x:Tk) (l:List Tk):flatT (x :: l) = .int .i64 x.k :: .int .i64 x.fr :: .int .i64 x.to :: .string x.tx :: flatT l:=rfl
theorem flatT_app (l m:List Tk):flatT (l ++ m)=flatT l ++ flatT m:=by simp [flatT]
theorem flatT_at:∀ {l:List Tk} {i:Nat} (h:i<l.length),(flatT l)[i * 4]? = some (.int .i64 l[i].k)∧(flatT l)[i * 4+1]? = some (.int .i64 l[i].fr)∧(flatT l)[i * 4+2]? = some (.int .i64 l[i].to)∧(flatT l)[i * 4+3]? = some (.string l[i].tx)
  | x :: l,0,_=>⟨rfl,rfl,rfl,rfl⟩
  | x :: l,i+1,h=>by
    have:=flatT_at (l:=l) (i:=i) (by simpa using h);rw [flatT_cons];simp only [zl3];rw [show (i+1) * 4=i * 4+1+1+1+1 from by omega]
    simpa [List.getElem?_cons_succ,show i * 4+1+1+1+1+2=i * 4+2+1+1+1+1 from by omega,show i * 4+1+1+1+1+3=i * 4+3+1+1+1+1 from by omega] using this
theorem own_tok {w:World} {base g cap:Nat} {e:TypeId} {l:List Tk} (h:w.ownsRow base e 4 (.slice (some ⟨g,0,none⟩) l.length cap) l.length (flatT l)) {i:Nat} (hi:i<l.length) :
    w.cell? ⟨g,i * 4,none⟩=some (.int .i64 l[i].k)∧w.cell? ⟨g,i * 4+1,none⟩=some (.int .i64 l[i].fr)∧w.cell? ⟨g,i * 4+2,none⟩=some (.int .i64 l[i].to)∧w.cell? ⟨g,i * 4+3,none⟩=some (.string l[i].tx):=by
  obtain ⟨h0,h1,h2,h3⟩:=flatT_at hi;exact ⟨by rw [h.cellAt _ (by omega),h0],by rw [h.cellAt _ (by omega),h1],by rw [h.cellAt _ (by omega),h2],by rw [h.cellAt _ (by omega),h3]⟩
theorem info_tok:(Tryz.prog.info? 36).map (fun i=>(i.zero,i.size,i.bytes))=some (some (.agg #[.int .i64 0,.int .i64 0,.int .i64 0,.string ByteArray.empty]),4,40):=by kernel_rfl
theorem info_span:(Tryz.prog.info? 90).map (fun i=>(i.zero,i.size,i.bytes))=some (some (.agg #[.int .i64 0,.int .i64 0]),2,16):=by kernel_rfl
structure SSm (base:Nat) (w:World) (g:Nat) (s:ByteArray) (at_:Nat) (l:List Tk) (A:Option Addr) (c:Nat) (R:Option Addr) (m d:Nat) (xs:List Value):Prop where
  blk:Blk w g 83 #[.string s,.int .i64 at_,.slice A l.length c,.slice R m d]
  tok:w.ownsRow base 36 4 (.slice A l.length c) l.length (flatT l)
  rem:w.ownsRow base 90 2 (.slice R m d) m xs
  mle:m≤at_
  lo:base≤g
def SSt (base:Nat) (w:World) (g:Nat) (s:ByteArray) (at_:Nat) (l:List Tk):Prop:=∃ A c R m d xs,SSm base w g s at_ l A c R m d xs
def badS (p:Int):List PanicEntry:=[{ v:=.iface 92 (.agg #[.int .i64 3,.string ⟨#[]⟩,.int .i64 p]),recovered:=false }]
theorem panicsS (v:Value) (w:World):(Instr.panic (.iface 92 v)).run Tryz.prog w = .halt (.panic (.iface 92 v)) w:=by kernel_rfl
section
variable {w w':World} {base g at_:Nat} {s:ByteArray} {l:List Tk}
theorem bads_calls {p:Int} {v:Value}:Calls Tryz.prog 110 #[v,.int .i64 p] w fun e w'=>e = .panicked (badS p)∧w'=w:=by
  have hpn:=panicsS;go_enter Tryz.func110,Tryz.ntmps110;go_wp2_with fail;exact ⟨rfl,rfl,rfl⟩
theorem own_ne {e e':TypeId} {size size' n n':Nat} {v v':Value} {xs xs':List Value} (h:w.ownsRow base e size v n xs) (h':w.ownsRow base e' size' v' n' xs') (he:e≠e') {k:Nat} (hk:v.ownBlock=some k):v'.ownBlock≠some k:=by
  intro hk';rcases h.2 with ⟨rfl,_⟩ | ⟨a,cap,cur,rfl,_,hg,_⟩
  · cases hk
  rcases h'.2 with ⟨rfl,_⟩ | ⟨b,cap',cur',rfl,_,hg',_⟩
  · cases hk'
  cases hk;cases hk';rw [hg] at hg';cases hg';exact he rfl
theorem SSm.grow {A:Option Addr} {c:Nat} {R:Option Addr} {m d:Nat} {xs:List Value} {W w3:World} {v':Value} {t:Tk} (h:SSm base w g s at_ l A c R m d xs) (hW:Below w.heap.size w W) (hown:w3.ownsRow base 36 4 v' (l.length+1) (flatT l ++ [.int .i64 t.k,.int .i64 t.fr,.int .i64 t.to,.string t.tx]))
    (hg:W.grownBy w3 (Value.slice A l.length c).ownBlock):∃ B c',v' = .slice B (l.length+1) c'∧SSt base (w3.setCell ⟨g,2,none⟩ (.slice B (l.length+1) c')) g s at_ (l ++ [t])∧Below base w (w3.setCell ⟨g,2,none⟩ (.slice B (l.length+1) c'))∧Blk w3 g 83 #[.string s,.int .i64 at_,.slice A l.length c,.slice R m d]:=by
  obtain ⟨B,c',rfl⟩:=own_form hown;have hgl:=h.blk.lt;have hz:=hW.size;have hB3:Blk w3 g 83 #[.string s,.int .i64 at_,.slice A l.length c,.slice R m d]:=(h.blk.below hW hgl).grown hg (fun e=>own_blk h.tok h.blk (by decide) e.symm)
  have hR3:w3.ownsRow base 90 2 (.slice R m d) m xs:=(own_below h.rem hW).kept hg (by
    cases hA:(Value.slice R m d).ownBlock with
    | none=>exact .inl rfl
    | some k=>exact .inr fun e=>own_ne h.rem h.tok (by decide) hA e.symm)
  have hsB:Below base w w3:=(hW.mono (Nat.le_trans h.lo (Nat.le_of_lt hgl))).trans ⟨hg.os,hg.tape,hg.output,hg.size,fun b hb=>hg.block b (by have:=h.lo;omega) (fun e=>by
    have:=(h.tok.lt b e.symm).1
    omega)⟩
  refine ⟨B,c',rfl,⟨B,c',R,m,d,xs,?_,?_,?_,h.mle,h.lo⟩,hsB.setCell h.lo _,hB3⟩
  · simpa using hB3.set_ 2 (.slice B (l.length+1) c')
  · rw [flatT_app]
    (have:w3.ownsRow base 36 4 (.slice B (l ++ [t]).length c') (l ++ [t]).length (flatT l ++ flatT [t]):=by simpa [flatT] using hown);exact own_same this fun k hk=>Below.heap_setCell w3 ⟨g,2,none⟩ _ k (fun e=>own_blk this hB3 (by decide) (by rw [hk,e]))
  · exact own_same hR3 fun k hk=>Below.heap_setCell w3 ⟨g,2,none⟩ _ k (fun e=>own_blk hR3 hB3 (by decide) (by rw [hk,e]))
end
set_option maxRecDepth 100000
set_option maxHeartbeats 4000000
section
variable {w w':World} {base g at_:Nat} {s:ByteArray} {l:List Tk}
theorem add_calls {k fr:Int} {tx:ByteArray} (h:SSt base w g s at_ l) (hl:l.length≤1000000) :
    Calls Tryz.prog 112 #[.pointer (some ⟨g,0,none⟩),.int .i64 k,.int .i64 fr,.string tx] w fun e w'=>e = .returned (.tuple #[])∧SSt base w' g s at_ (l ++ [⟨k,fr,at_,tx⟩])∧Below base w w':=by
  obtain ⟨A,c,R,m,d,xs,hm⟩:=h;have H:=zh hm;have hlo:=hm.lo;have q0:=hm.blk.cell 0;have q1:=hm.blk.cell 1;have q2:=hm.blk.cell 2;have q3:=hm.blk.cell 3;simp at q0 q1 q2 q3;have qf:=hm.blk.frozen;have ql:=hm.blk.lt;clear hm;obtain ⟨i0,hi0,iz0,iz1,iz2⟩:=info_parts info_tok;go_enter Tryz.func112,Tryz.ntmps112
  go_region_law
    (first
      | (refine step_append_row _ rfl _ _ 32 rfl base 36 i0 _ 4 40 Tryz.underlying32 hi0 iz0 iz1 iz2 rfl (by omega) (.slice A l.length c) l.length (flatT l) (by simp [Act.eval]) (own_below H.out.tok (below_al _ _).drew) (fun b=>b=w.heap.size) (.slice (some ⟨w.heap.size,0,none⟩) 1 1) 1 [.int .i64 k,.int .i64 fr,.int .i64 at_,.string tx] (by simp [Act.eval]) (((Blk.new w _ _).row (n:=1) rfl (by unfold maxLen;omega) rfl)) (by simp [Value.oneCell']) (by unfold maxLen;omega) (by omega) (by simp;omega) ?_
         intro v' w3 hown hg hnil hat;obtain ⟨B,c',rfl,hS,hBl,hB3⟩:=H.out.grow (t:=⟨k,fr,at_,tx⟩) (below_al _ _).drew hown hg;have HS:=zh hS;have HBL:=zh hBl;have s2:=hB3.cell 2;simp at s2;have sf:=hB3.frozen;have sl:=hB3.lt
         clear hown hg hnil hat hS hBl hB3))
  all_goals
    go_end0
    exact ⟨rfl,HS.out,HBL.out⟩
theorem line_calls {p:Int} (h:SSt base w g s at_ l) (hl:l.length≤1000000) (hbw:base≤w.heap.size) :
    Calls Tryz.prog 107 #[.pointer (some ⟨g,0,none⟩),.int .i64 p] w fun e w'=>e = .returned (.tuple #[])∧SSt base w' g s at_ (lineT p l)∧Below base w w':=by
  obtain ⟨A,c,R,m,d,xs,hm⟩:=h;have H:=zh hm;have hlo:=hm.lo;have q2:=hm.blk.cell 2;simp at q2;have ql:=hm.blk.lt;clear hm;obtain ⟨i0,hi0,iz0,iz1,iz2⟩:=info_parts info_tok;rcases Nat.eq_zero_or_pos l.length with h0 | h0
  · obtain rfl:l=[]:=List.eq_nil_of_length_eq_zero h0
    clear h0;go_enter Tryz.func107,Tryz.ntmps107;go_wp2_with fail
    go_end0
    exact ⟨rfl,⟨A,c,R,m,d,xs,H.out⟩,Below.refl _ _⟩
  obtain ⟨n,hn⟩:∃ n,l.length=n+1:=⟨l.length - 1,by omega⟩;obtain ⟨tg,c0,hA,-⟩:=H.out.tok.form h0;cases hA;obtain ⟨t0,t1,t2,t3⟩:=own_tok H.out.tok (i:=n) (by omega);obtain ⟨t,ht⟩:∃ t,l[n]'(by omega)=t:=⟨_,rfl⟩;rw [ht] at t0 t1 t2 t3
  have hlast:l.getLast? = some t:=by
    rw [List.getLast?_eq_getElem?,hn,Nat.add_sub_cancel,List.getElem?_eq_getElem (by omega),ht]
  have HL:Hid (lineT p l=if endsT t=true then l ++ [⟨6,p,p,⟨#[10]⟩⟩] else l):=zh (by unfold lineT;rw [hlast]);(have hni:(n:Int)≤1000000:=by omega);(have hcast:((l.length:Nat):Int)=(n:Int)+1:=by omega);(have hgt:(l.length:Int)>0:=by omega);(have hsub:IntKind.i64.wrap ((l.length:Int) - 1)=(n:Int):=by rw [hcast,Int.add_sub_cancel,IntKind.wrap_i64];omega);(have hlt:(n:Int)<(l.length:Int):=by omega);(have hz:(0:Int)≤(n:Int):=by omega);clear hlast ht hn hcast h0;go_enter Tryz.func107,Tryz.ntmps107;go_wp2_with fail;refine (ends_calls (t:=t)).mono ?_;rintro e w1 ⟨rfl,hb1⟩;have hz1:=hb1.size;by_cases he:endsT t=true
  · rw [he] at HL ⊢
    rw [if_pos rfl] at HL;have hB1:=H.out.blk.below hb1 ql;have p2:=hB1.cell 2;simp at p2;have pl:=hB1.lt;have HB1:=zh hb1;clear q2 t0 t1 t2 t3 hB1 hb1 he;go_wp2_with (at_builtin;refine wpList_append_row _ rfl _ _ 32 rfl base 36 i0 _ 4 40 Tryz.underlying32 hi0 iz0 iz1 iz2 rfl (by omega) (.slice (some ⟨tg,0,none⟩) l.length c) l.length (flatT l) rfl (own_below H.out.tok (HB1.out.alloc hz1 _)) (fun b=>b=w1.heap.size) (.slice (some ⟨w1.heap.size,0,none⟩) 1 1) 1 [.int .i64 6,.int .i64 p,.int .i64 p,.string ⟨#[10]⟩] rfl ((Blk.new w1 _ _).row (n:=1) rfl (by unfold maxLen;omega) rfl) (by simp [Value.oneCell']) (by unfold maxLen;omega) (by omega) (by simp;omega) ?_);intro v' w3 hown hg hnil hat;obtain ⟨B,c',rfl,hS,hBl,hB3⟩:=H.out.grow (t:=⟨6,p,p,⟨#[10]⟩⟩) (HB1.out.alloc hz1 _) hown hg;have HS:=zh hS;have HBL:=zh hBl;have s2:=hB3.cell 2;simp at s2;have sf:=hB3.frozen;have sl:=hB3.lt;clear hown hg hnil hat hS hBl hB3;go_wp2_with fail
    go_end0
    exact ⟨rfl,by rw [HL.out];exact HS.out,HBL.out⟩
  · rw [Bool.eq_false_iff.2 he] at HL ⊢
    rw [if_neg (by decide)] at HL;have HB1:=zh hb1;clear hb1 he;go_wp2_with fail
    go_end0
    refine ⟨rfl,?_,HB1.out.mono hbw⟩;rw [HL.out];exact ⟨_,c,R,m,d,xs,H.out.blk.below HB1.out ql,own_below H.out.tok HB1.out,own_below H.out.rem HB1.out,H.out.mle,H.out.lo⟩
end
mutual
def flN:No→List No
  | .mk k f t x ks=>.mk k f t x ks :: flL ks
def flL:List No→List No
  | []=>[]
  | n :: ns=>flN n ++ flL ns
end
theorem flL_app:∀ l m:List No,flL (l ++ m)=flL l ++ flL m
  | [],m=>by rw [flL];rfl
  | n :: ns,m=>by rw [List.cons_append,flL,flL,flL_app ns m,List.append_assoc]
theorem flL_take {ks:List No} {j:Nat} (h:j<ks.length):flL (ks.take (j+1))=flL (ks.take j) ++ flN ks[j]:=by
  rw [List.take_succ_eq_append_getElem h,flL_app,flL,flL,List.append_nil]
theorem flL_le {ks:List No} {j:Nat}:(flL (ks.take j)).length≤(flL ks).length:=by
  have e:=flL_app (ks.take j) (ks.drop j);rw [List.take_append_drop] at e;rw [e,List.length_append];omega
theorem info_int:(Tryz.prog.info? 3).map (fun i=>(i.zero,i.size,i.bytes))=some (some (.int .i64 0),1,8):=by kernel_rfl
structure FI (B:Nat) (w wr:World) (lv0 av0:Value) (out:List No) (xs:List Value) (q:Nat) (ys:List Value) (lv av:Value):Prop where
  l:wr.ownsRow B 25 5 lv out.length xs
  n:NosR wr (fun k=>k<B) out xs
  a:wr.ownsRow B 3 1 av q ys
  hb:B≤wr.heap.size
  but:But (fun k=>lv0.ownBlock=some k∨av0.ownBlock=some k) w wr
  ll:∀ k,lv.ownBlock=some k→lv0.ownBlock=some k∨w.heap.size≤k
  la:∀ k,av.ownBlock=some k→av0.ownBlock=some k∨w.heap.size≤k
section
variable {B q:Nat} {w wr w3:World} {lv0 av0 lv av v':Value} {out:List No} {xs ys cs:List Value} {n:No}
theorem FI.alloc (h:FI B w wr lv0 av0 out xs q ys lv av) (o:Obj):FI B w (wr.alloc o) lv0 av0 out xs q ys lv av:=
  ⟨own_below h.l (below_al _ _),h.n.keep (zr.alloc (fun k hk=>Nat.lt_of_lt_of_le hk h.hb) o) (fun _ h=>h),own_below h.a (below_al _ _),by have:=h.hb;simp;omega,h.but.alloc _,h.ll,h.la⟩
theorem FI.growL (h:FI B w wr lv0 av0 out xs q ys lv av) (hown:w3.ownsRow B 25 5 v' (out.length+1) (xs ++ cs)) (hg:wr.grownBy w3 lv.ownBlock) (hat:v'.ownBlock=lv.ownBlock∨v'.ownBlock=some wr.heap.size) (hn:NoR wr (fun k=>k<B) n cs) :
    FI B w w3 lv0 av0 (out ++ [n]) (xs ++ cs) q ys v' av:=by
  have hs:SameOn (fun k=>k<B) wr w3:=SameOn.of_grown hg (fun k hk=>Nat.lt_of_lt_of_le hk h.hb) fun b hb e=>by
    have:=(h.l.lt b e.symm).1;omega
  refine ⟨by simpa using hown,NosR.append (h.n.keep hs fun _ h=>h) (NosR.one (hn.keep hs fun _ h=>h)),h.a.kept hg ?_,Nat.le_trans h.hb hg.size,?_,?_,h.la⟩
  · cases hA:av.ownBlock with
    | none=>exact .inl rfl
    | some k=>exact .inr fun e=>own_ne h.a h.l (by decide) hA e.symm
  · exact h.but.trans (Y:=fun k=>lv.ownBlock=some k) ⟨hg.os,hg.tape,hg.output,hg.size,fun k hk hX=>hg.block k hk fun e=>hX e.symm⟩ fun k hk e=>(h.ll k e).elim .inl fun h=>absurd hk (by omega)
  · intro k e
    rcases hat with h1 | h1
    · exact h.ll k (by rw [← h1];exact e)
    · rw [h1] at e
      cases e;exact .inr h.but.size
theorem FI.growA {d:Value} (h:FI B w wr lv0 av0 out xs q ys lv av) (hown:w3.ownsRow B 3 1 v' (q+1) (ys ++ [d])) (hg:wr.grownBy w3 av.ownBlock) (hat:v'.ownBlock=av.ownBlock∨v'.ownBlock=some wr.heap.size) :
    FI B w w3 lv0 av0 out xs (q+1) (ys ++ [d]) lv v':=by
  have hs:SameOn (fun k=>k<B) wr w3:=SameOn.of_grown hg (fun k hk=>Nat.lt_of_lt_of_le hk h.hb) fun b hb e=>by
    have:=(h.a.lt b e.symm).1;omega
  refine ⟨h.l.kept hg ?_,h.n.keep hs fun _ h=>h,hown,Nat.le_trans h.hb hg.size,?_,h.ll,?_⟩
  · cases hA:lv.ownBlock with
    | none=>exact .inl rfl
    | some k=>exact .inr fun e=>own_ne h.l h.a (by decide) hA e.symm
  · exact h.but.trans (Y:=fun k=>av.ownBlock=some k) ⟨hg.os,hg.tape,hg.output,hg.size,fun k hk hX=>hg.block k hk fun e=>hX e.symm⟩ fun k hk e=>(h.la k e).elim .inr fun h=>absurd hk (by omega)
  · intro k e
    rcases hat with h1 | h1
    · exact h.la k (by rw [← h1];exact e)
    · rw [h1] at e
      cases e;exact .inr h.but.size
theorem FI.go {out2:List No} {xs2 ys2:List Value} {q2:Nat} {lv2 av2:Value} (h:FI B w wr lv0 av0 out xs q ys lv av) (h2:FI B wr w3 lv av out2 xs2 q2 ys2 lv2 av2):FI B w w3 lv0 av0 out2 xs2 q2 ys2 lv2 av2:=
  ⟨h2.l,h2.n,h2.a,h2.hb,h.but.trans h2.but fun k hk e=>by
    rcases e with e | e
    · exact (h.ll k e).elim .inl fun h=>absurd hk (by omega)
    · exact (h.la k e).elim .inr fun h=>absurd hk (by omega),
   fun k e=>(h2.ll k e).elim (h.ll k) fun h3=>.inr (Nat.le_trans h.but.size h3),fun k e=>(h2.la k e).elim (h.la k) fun h3=>.inr (Nat.le_trans h.but.size h3)⟩
theorem FI.off {o:Obj} (h:FI B (w.alloc o) wr lv0 av0 out xs q ys lv av):FI B w wr lv0 av0 out xs q ys lv av:=
  ⟨h.l,h.n,h.a,h.hb,((But.refl _ w).alloc o).trans h.but fun _ _ h=>h,fun k e=>(h.ll k e).elim .inl fun h=>.inr (by simp at h;omega),fun k e=>(h.la k e).elim .inl fun h=>.inr (by simp at h;omega)⟩
end
set_option maxRecDepth 100000
set_option maxHeartbeats 4000000
theorem flat_any (N:Nat):∀ (n:No) (cs:List Value) (w:World) (B:Nat) (lv av:Value) (l:List No) (xs ys:List Value) (m:Nat) (d:Int),SizeOf.sizeOf n<N→NoR w (fun k=>k<B) n cs→
    FI B w w lv av l xs m ys lv av→l.length+(flN n).length≤1000000→m+(flN n).length≤1000000→
    Calls Tryz.prog 30 #[.agg cs.toArray,.int .i64 d,lv,av] w fun e w'=>∃ xs' ys' lv' av',e = .returned (.tuple #[lv',av'])∧FI B w w' lv av (l ++ flN n) xs' (m+(flN n).length) ys' lv' av':=by
  induction N with
  | zero=>intro n cs w B lv av l xs ys m d h;exact absurd h (by omega)
  | succ N ih=>
    intro n cs w B lv av l xs ys m d hN hr hl hb1 hb2;obtain ⟨A1,c1,rfl,hkr⟩:=hr.forms;obtain ⟨k,lo,hi,tx,ks⟩:=n;simp only [No.k,No.fr,No.to,No.tx,No.ks] at *;(have hlen:ks.length≤maxLen:=by obtain ⟨xs,⟨-,A2,cap,hv,h1,h2,-⟩,-⟩:=hkr;cases hv;exact Nat.le_trans h1 h2);(have hlen:ks.length≤9223372036854775807:=by unfold maxLen at hlen;omega);obtain ⟨A2,c2,hA2⟩:=own_form hl.l;subst hA2;obtain ⟨A3,c3,hA3⟩:=own_form hl.a;subst hA3;(have hfl:(flN (.mk k lo hi tx ks)).length=(flL ks).length+1:=by rw [flN,List.length_cons]);(have hfe:flN (.mk k lo hi tx ks) = .mk k lo hi tx ks :: flL ks:=by rw [flN]);rw [hfl] at hb1 hb2;rw [hfl,hfe];have HKR:=zh hkr;have HR:=zh hr;have HL:=zh hl;have IH:=zh ih;have HSZ:=zh hN;have hBw:=hl.hb;clear hkr ih hl hr hN hfl hfe;obtain ⟨i0,hi0,iz0,iz1,iz2⟩:=info_parts info_node;obtain ⟨j0,hj0,jz0,jz1,jz2⟩:=info_parts info_int;go_enter Tryz.func30,Tryz.ntmps30;have HF1:Hid (FI B (w.alloc (.cells #[.int .i64 k,.int .i64 lo,.int .i64 hi,.string tx,.slice A1 ks.length c1] 25)) (w.alloc (.cells #[.int .i64 k,.int .i64 lo,.int .i64 hi,.string tx,.slice A1 ks.length c1] 25)) (.slice A2 l.length c2) (.slice A3 m c3) l xs m ys (.slice A2 l.length c2) (.slice A3 m c3)):=zh ⟨(HL.out.alloc _).l,(HL.out.alloc _).n,(HL.out.alloc _).a,(HL.out.alloc _).hb,zb,fun _ h=>.inl h,fun _ h=>.inl h⟩
    have HRW:Hid (Row ((w.alloc (.cells #[.int .i64 k,.int .i64 lo,.int .i64 hi,.string tx,.slice A1 ks.length c1] 25)).alloc (.cells #[.int .i64 k,.int .i64 lo,.int .i64 hi,.string tx,.slice A1 ks.length c1] 25)) (fun b=>b=w.heap.size+1) 5 (.slice (some ⟨w.heap.size+1,0,none⟩) 1 1) 1 [.int .i64 k,.int .i64 lo,.int .i64 hi,.string tx,.slice A1 ks.length c1]):=zh (by
      have h1:=(Blk.new (w.alloc (.cells #[.int .i64 k,.int .i64 lo,.int .i64 hi,.string tx,.slice A1 ks.length c1] 25)) 25 #[.int .i64 k,.int .i64 lo,.int .i64 hi,.string tx,.slice A1 ks.length c1]).row (S:=fun b=>b=(w.alloc (.cells #[.int .i64 k,.int .i64 lo,.int .i64 hi,.string tx,.slice A1 ks.length c1] 25)).heap.size) (n:=1) (size:=5) rfl (by unfold maxLen;omega) rfl;(have e:(w.alloc (.cells #[.int .i64 k,.int .i64 lo,.int .i64 hi,.string tx,.slice A1 ks.length c1] 25)).heap.size=w.heap.size+1:=by simp);rw [e] at h1
      exact h1)
    go_wp2_with (at_builtin;refine wpList_append_row _ rfl _ _ 23 rfl B 25 i0 _ 5 64 Tryz.underlying23 hi0 iz0 iz1 iz2 rfl (by omega) (.slice A2 l.length c2) l.length xs rfl ((HF1.out.alloc _).l) (fun b=>b=w.heap.size+1) (.slice (some ⟨w.heap.size+1,0,none⟩) 1 1) 1 [.int .i64 k,.int .i64 lo,.int .i64 hi,.string tx,.slice A1 ks.length c1] rfl HRW.out one5 (by unfold maxLen;omega) (by omega) (by simp;omega) ?_);intro v' w3 hown hg hnil hat;have hF3:=(HF1.out.alloc (.cells #[.int .i64 k,.int .i64 lo,.int .i64 hi,.string tx,.slice A1 ks.length c1] 25)).growL hown hg (by simpa using hat) (n:=.mk k lo hi tx ks) (HR.out.keep ((zr.alloc (fun b hb=>by omega) _).alloc (fun b hb=>by simp;omega) _) fun _ h=>h);obtain ⟨A4,c4,rfl⟩:=own_form hown;have hz3:=hg.size;simp at hz3
    have hbx:Blk w3 w.heap.size 25 #[.int .i64 k,.int .i64 lo,.int .i64 hi,.string tx,.slice A1 ks.length c1]:=((Blk.new w _ _).alloc _).grown hg (fun e=>by
      have:=(HL.out.l.lt _ e.symm).2
      omega)
    have HF3:=zh hF3;have HBX:=zh hbx;clear hown hg hnil hat hF3 hbx HRW HF1;have HRA:Hid (Row (w3.alloc (.cells #[.int .i64 d] 3)) (fun b=>b=w3.heap.size) 1 (.slice (some ⟨w3.heap.size,0,none⟩) 1 1) 1 [.int .i64 d]):=zh ((Blk.new w3 3 #[.int .i64 d]).row (n:=1) (size:=1) rfl (by unfold maxLen;omega) rfl);go_wp2_with (at_builtin;refine wpList_append_row _ rfl _ _ 38 rfl B 3 j0 _ 1 8 Tryz.underlying38 hj0 jz0 jz1 jz2 rfl (by omega) (.slice A3 m c3) m ys rfl ((HF3.out.alloc _).a) (fun b=>b=w3.heap.size) (.slice (some ⟨w3.heap.size,0,none⟩) 1 1) 1 [.int .i64 d] rfl HRA.out (by simp [Value.oneCell']) (by unfold maxLen;omega) (by omega) (by simp;omega) ?e1)
    case e1=>
    intro v2 w4 hown hg hnil hat;have hF4:=(HF3.out.alloc (.cells #[.int .i64 d] 3)).growA hown hg (by simpa using hat);obtain ⟨A5,c5,rfl⟩:=own_form hown;have hz4:=hg.size;simp at hz4
    have hbx:Blk w4 w.heap.size 25 #[.int .i64 k,.int .i64 lo,.int .i64 hi,.string tx,.slice A1 ks.length c1]:=(HBX.out.alloc _).grown hg (fun e=>by
      have:=(HL.out.a.lt _ e.symm).2
      omega)
    have HF4:=zh hF4;have HBX4:=zh hbx;have hc4:=hbx.cell 4;simp at hc4;clear hown hg hnil hat hF4 hbx HRA HF3 HBX;go_wp2_with fail
    (try go_step3)
    go_wp2_with fail
    go_loopg [2,3,10] ks.length (fun mm lv av i wr=>∃ (j:Nat) (Al:Option Addr) (cl:Nat) (Aa:Option Addr) (ca q:Nat) (out:List No) (xr yr:List Value),mm=ks.length - j∧j≤ks.length∧i = .int .i64 j∧lv = .slice Al out.length cl∧av = .slice Aa q ca∧Hid (out=l ++ [.mk k lo hi tx ks] ++ flL (ks.take j))∧Hid (q=m+1+(flL (ks.take j)).length)∧
      Hid (FI B (w.alloc (.cells #[.int .i64 k,.int .i64 lo,.int .i64 hi,.string tx,.slice A1 ks.length c1] 25)) wr (.slice A2 l.length c2) (.slice A3 m c3) out xr q yr (.slice Al out.length cl) (.slice Aa q ca)))
    case atStart=>exact ⟨0,A4,c4,A5,c5,m+1,l ++ [.mk k lo hi tx ks],_,_,by simp,by omega,rfl,by simp,rfl,zh (by rw [List.take_zero,flL,List.append_nil]),zh (by rw [List.take_zero,flL];rfl),zh (by simpa using HF4.out)⟩
    case round=>
      obtain ⟨j,Al,cl,Aa,ca,q,out,xr,yr,rfl,hj,rfl,rfl,rfl,hout,hq,HFI⟩:=hrel
      have hnx:¬ ((Value.slice A2 l.length c2).ownBlock=some w.heap.size∨(Value.slice A3 m c3).ownBlock=some w.heap.size):=by
        rintro (e | e)
        · have:=(HL.out.l.lt _ e).2;omega
        · have:=(HL.out.a.lt _ e).2;omega
      have hbx:=(Blk.new w 25 #[.int .i64 k,.int .i64 lo,.int .i64 hi,.string tx,.slice A1 ks.length c1]).but HFI.out.but hnx;have hc4':=hbx.cell 4;simp at hc4';clear hc4 hbx hnx;have hzr:=HFI.out.but.size;simp at hzr;by_cases hlt:j<ks.length
      · have hso:SameOn (fun b=>b<B) w wr:=by
          refine SameOn.trans (zr.alloc (fun b hb=>Nat.lt_of_lt_of_le hb hBw) _) (HFI.out.but.sameOn fun b hb=>⟨by simp;omega,?_⟩);rintro (e | e)
          · have:=(HL.out.l.lt _ e).1;omega
          · have:=(HL.out.a.lt _ e).1;omega
        have hr:=HKR.out.keep hso (fun _ h=>h);obtain ⟨g,o,cap,Bk,c,hv,hSg,q0,q1,q2,q3,q4,hkid⟩:=hr.cellsD hlt;cases hv
        have hszj:SizeOf.sizeOf ks[j]<N:=by
          have h1:=HSZ.out;have h2:=List.sizeOf_lt_of_mem (List.getElem_mem hlt);simp only [No.mk.sizeOf_spec] at h1;omega
        have htk:=flL_take hlt;have hle:=flL_le (ks:=ks) (j:=j+1);obtain ⟨y,hy⟩:∃ y,ks[j]=y:=⟨_,rfl⟩;rw [hy] at q0 q1 q2 q3 q4 hkid hszj htk;rw [htk,List.length_append] at hle;(have hol:out.length=l.length+1+(flL (ks.take j)).length:=by rw [hout.out];simp;omega);have hql:=hq.out;(have hq1:out.length+(flN y).length≤1000000:=by omega);(have hq2:q+(flN y).length≤1000000:=by omega);clear hol hql hle;have HKID:=zh hkid;have HTK:=zh htk;have HSJ:=zh hszj;clear hy hkid hr hso htk hszj;go_wp2_with fail;refine (IH.out y [.int .i64 y.k,.int .i64 y.fr,.int .i64 y.to,.string y.tx,.slice Bk y.ks.length c] wr B (.slice Al out.length cl) (.slice Aa q ca) out xr yr q _ HSJ.out HKID.out ⟨HFI.out.l,HFI.out.n,HFI.out.a,HFI.out.hb,zb,fun _ h=>.inl h,fun _ h=>.inl h⟩ hq1 hq2).mono ?_;rintro e w2 ⟨xs2,ys2,lv2,av2,rfl,hF2⟩;obtain ⟨Am,cm,rfl⟩:=own_form hF2.l;obtain ⟨An,cn,rfl⟩:=own_form hF2.a;have HF2:=zh (HFI.out.go hF2);clear hF2 HKID q0 q1 q2 q3 q4 hc4';go_wp2_with fail
        go_roundg (ks.length - (j+1))
        case measure=>omega
        case rel=>exact ⟨j+1,Am,cm,An,cn,q+(flN y).length,out ++ flN y,xs2,ys2,rfl,by omega,by go_num,by simp,rfl,zh (by rw [HTK.out,hout.out];simp),zh (by rw [HTK.out,hq.out];simp;omega),HF2⟩
      · have hge:ks.length≤j:=by omega
        have ht:ks.take j=ks:=List.take_of_length_le hge;have HO:=zh hout.out;have HQ:=zh hq.out;rw [ht] at HO HQ;clear hlt hout hq ht;go_wp2_with fail
        (try go_step3)
        go_wp2_with fail
        exact bodyPost_ret (v:=.tuple #[.slice Al out.length cl,.slice Aa q ca]) (by simp [results,Tryz.results30,go_sem]) rfl ⟨xr,yr,_,_,rfl,by
          have h:=HFI.out.off;rw [HO.out,HQ.out] at h;rw [HO.out,HQ.out]
          simpa [Nat.add_assoc,Nat.add_comm 1] using h⟩
def LsN (w w':World) (v:Value) (l:List No):Prop:=∃ xs,w'.ownsRow w.heap.size 25 5 v l.length xs∧NosR w' (fun k=>k<w.heap.size) l xs
theorem all_calls {n:No} {cs:List Value} {w:World} (hr:NoR w (fun k=>k<w.heap.size) n cs) (hn:(flN n).length≤1000000) :
    Calls Tryz.prog 18 #[.agg cs.toArray] w fun e w'=>∃ A c,e = .returned (.slice A (flN n).length c)∧LsN w w' (.slice A (flN n).length c) (flN n)∧Below w.heap.size w w':=by
  obtain ⟨A1,c1,rfl,hkr⟩:=hr.forms;have HR:=zh hr;clear hr hkr;go_enter Tryz.func18,Tryz.ntmps18;go_wp2_with fail;have hs:SameOn (fun k=>k<w.heap.size) w (w.alloc (.cells #[.int .i64 n.k,.int .i64 n.fr,.int .i64 n.to,.string n.tx,.slice A1 n.ks.length c1] 25)):=zr.alloc (fun b hb=>hb) _;have h0:∀ (e:TypeId) (s:Nat) (W:World),W.ownsRow w.heap.size e s (.slice none 0 0) 0 []:=fun e s W=>⟨by simp,.inl ⟨rfl,rfl⟩⟩;refine (flat_any (SizeOf.sizeOf n+1) n _ _ w.heap.size (.slice none 0 0) (.slice none 0 0) [] [] [] 0 0 (Nat.lt_succ_self _) (HR.out.keep hs fun _ h=>h) ⟨h0 _ _ _,NosR.nil_,h0 _ _ _,by simp,zb,fun _ h=>.inl h,fun _ h=>.inl h⟩ (by simpa using hn) (by simpa using hn)).mono ?_;rintro e w1 ⟨xs,ys,lv,av,rfl,hF⟩;obtain ⟨Am,cm,rfl⟩:=own_form hF.l;obtain ⟨An,cn,rfl⟩:=own_form hF.a;have HF:=zh hF.off;clear hF;go_wp2_with fail;go_ret;refine ⟨Am,cm,by simp,⟨xs,by simpa using HF.out.l,by simpa using HF.out.n⟩,HF.out.but.below (fun k hk e=>?_) (Nat.le_refl _)⟩;rcases e with e | e <;> cases e
def cntK (kd:Int) (l:List No):Nat:=(l.filter fun n=>decide (n.k=kd)).length
theorem cntK_le {kd:Int} {l:List No}:cntK kd l≤l.length:=List.length_filter_le _ _
theorem cntK_take {kd:Int} {l:List No} {j:Nat} (h:j<l.length):cntK kd (l.take (j+1))=cntK kd (l.take j)+if l[j].k=kd then 1 else 0:=by
  unfold cntK;rw [List.take_succ_eq_append_getElem h,List.filter_append,List.length_append];by_cases e:l[j].k=kd <;> simp [e]
set_option maxRecDepth 100000
set_option maxHeartbeats 4000000
theorem some_calls {w:World} {v:Value} {l:List No} {kd:Int} (hr:RowN w (fun b=>b<w.heap.size) v l) (hn:l.length≤1000000) :
    Calls Tryz.prog 55 #[v,.int .i64 kd] w fun e w'=>∃ A c,e = .returned (.slice A (cntK kd l) c)∧Below w.heap.size w w':=by
  obtain ⟨A1,c1,rfl⟩:=hr.form;have HKR:=zh hr;clear hr;obtain ⟨i0,hi0,iz0,iz1,iz2⟩:=info_parts info_node;go_enter Tryz.func55,Tryz.ntmps55;go_wp2_with fail
  (try go_step3)
  go_wp2_with fail
  go_loopg [5,6] l.length (fun mm ov i wr=>∃ (j q:Nat) (Al:Option Addr) (cl:Nat) (xr:List Value),mm=l.length - j∧j≤l.length∧i = .int .i64 j∧ov = .slice Al q cl∧Hid (q=cntK kd (l.take j))∧Hid (wr.ownsRow w.heap.size 25 5 (.slice Al q cl) q xr)∧Hid (Below w.heap.size w wr))
  case atStart=>exact ⟨0,0,none,0,[],by simp,by omega,rfl,rfl,zh (by simp [cntK]),zh ⟨by simp,.inl ⟨rfl,rfl⟩⟩,zh (Below.refl _ _)⟩
  case round=>
    obtain ⟨j,q,Al,cl,xr,rfl,hj,rfl,rfl,hq,HO,HB⟩:=hrel;have hzr:=HB.out.size;by_cases hlt:j<l.length
    · have hrr:=HKR.out.keep (SameOn.of_below HB.out fun _ h=>h) (fun _ h=>h)
      obtain ⟨g,o,cap,Bk,c,hv,hSg,q0,q1,q2,q3,q4,hkid⟩:=hrr.cellsD hlt;cases hv;have hst:=cntK_take (kd:=kd) hlt;have hle:=cntK_le (kd:=kd) (l:=l.take j);rw [List.length_take] at hle;have hqq:=hq.out;(have hql:q≤1000000:=by omega);obtain ⟨y,hy⟩:∃ y,l[j]=y:=⟨_,rfl⟩;rw [hy] at q0 q1 q2 q3 q4 hst;clear hy hkid hrr hle hqq;by_cases hk:y.k=kd
      · rw [if_pos hk] at hst
        (have hka:(y.k == kd)=true:=by simpa using hk);have HST:=zh hst;clear hst hk;have HRW:Hid (Row (wr.alloc (.cells #[.int .i64 y.k,.int .i64 y.fr,.int .i64 y.to,.string y.tx,.slice Bk y.ks.length c] 25)) (fun b=>b=wr.heap.size) 5 (.slice (some ⟨wr.heap.size,0,none⟩) 1 1) 1 [.int .i64 y.k,.int .i64 y.fr,.int .i64 y.to,.string y.tx,.slice Bk y.ks.length c]):=zh ((Blk.new wr 25 #[.int .i64 y.k,.int .i64 y.fr,.int .i64 y.to,.string y.tx,.slice Bk y.ks.length c]).row (S:=fun b=>b=wr.heap.size) (n:=1) (size:=5) rfl (by unfold maxLen;omega) rfl);go_wp2_with (at_builtin;refine wpList_append_row _ rfl _ _ 23 rfl w.heap.size 25 i0 _ 5 64 Tryz.underlying23 hi0 iz0 iz1 iz2 rfl (by omega) (.slice Al q cl) q xr rfl (own_below HO.out (below_al _ _)) (fun b=>b=wr.heap.size) (.slice (some ⟨wr.heap.size,0,none⟩) 1 1) 1 [.int .i64 y.k,.int .i64 y.fr,.int .i64 y.to,.string y.tx,.slice Bk y.ks.length c] rfl HRW.out one5 (by unfold maxLen;omega) (by omega) (by simp;omega) ?_);intro v' w3 hown hg hnil hat
        have hB3:Below w.heap.size w w3:=(HB.out.alloc hzr _).trans ⟨hg.os,hg.tape,hg.output,hg.size,fun b hb=>hg.block b (by simp;omega) (fun e=>by
          have:=(HO.out.lt b e.symm).1
          omega)⟩
        obtain ⟨Am,cm,rfl⟩:=own_form hown;have HO3:=zh hown;have HB3:=zh hB3;clear hown hg hnil hat hB3 HRW q0 q1 q2 q3 q4;go_wp2_with fail
        go_roundg (l.length - (j+1))
        case measure=>omega
        case rel=>exact ⟨j+1,q+1,Am,cm,_,rfl,by omega,by go_num,rfl,zh (by rw [HST.out,hq.out]),HO3,HB3⟩
      · rw [if_neg hk] at hst
        (have hka:(y.k == kd)=false:=by simpa using hk);have HST:=zh hst;clear hst hk;go_wp2_with fail
        go_roundg (l.length - (j+1))
        case measure=>omega
        case rel=>exact ⟨j+1,q,Al,cl,_,rfl,by omega,by go_num,rfl,zh (by rw [HST.out,hq.out];rfl),HO,HB⟩
    · have hge:l.length≤j:=by omega
      have HQ:=zh hq.out;rw [List.take_of_length_le hge] at HQ;clear hlt hq;go_wp2_with fail
      (try go_step3)
      go_wp2_with fail;go_ret;exact ⟨Al,cl,by rw [← HQ.out];rfl,HB.out⟩
theorem idents_calls {n:No} {cs:List Value} {w:World} (hr:NoR w (fun k=>k<w.heap.size) n cs) (hn:(flN n).length≤1000000) :
    Calls Tryz.prog 15 #[.agg cs.toArray] w fun e w'=>∃ A c,e = .returned (.slice A (cntK 40 (flN n)) c)∧Below w.heap.size w w':=by
  obtain ⟨A1,c1,rfl,hkr⟩:=hr.forms;have HR:=zh hr;clear hr hkr;have hal:∀ W:World,SameOn (fun k=>k<W.heap.size) W (W.alloc (.cells #[.int .i64 n.k,.int .i64 n.fr,.int .i64 n.to,.string n.tx,.slice A1 n.ks.length c1] 25)):=fun W=>zr.alloc (fun b hb=>hb) _;have HAL:=zh hal;clear hal
  have key:∀ W:World,Hid (NoR W (fun k=>k<W.heap.size) n [.int .i64 n.k,.int .i64 n.fr,.int .i64 n.to,.string n.tx,.slice A1 n.ks.length c1])→Calls Tryz.prog 28 #[.agg #[.int .i64 n.k,.int .i64 n.fr,.int .i64 n.to,.string n.tx,.slice A1 n.ks.length c1]] W fun e w'=>∃ A c,e = .returned (.slice A (cntK 40 (flN n)) c)∧Below W.heap.size W w':=by
    intro W HW;go_enter Tryz.func28,Tryz.ntmps28;go_wp2_with fail;refine (all_calls (n:=n) (HW.out.keep (HAL.out W) fun _ h=>by simp;omega) hn).mono ?_;rintro e w1 ⟨A2,c2,rfl,⟨xs,h1,h2⟩,hb⟩;have hz1:=hb.size;have HB1:Hid (Below W.heap.size W w1):=zh ((below_al _ _).trans (hb.mono (by simp)));have HRN:Hid (RowN w1 (fun b=>b<w1.heap.size) (.slice A2 (flN n).length c2) (flN n)):=zh ⟨xs,Row.of_own h1 fun b hb=>(h1.lt b hb).2,h2.keep zr fun b hb=>by omega⟩;clear hb h1 h2;go_wp2_with fail;refine (some_calls HRN.out hn).mono ?_;rintro e w2 ⟨A3,c3,rfl,hb⟩;have HB2:Hid (Below W.heap.size W w2):=zh (HB1.out.trans (hb.mono (by simp at hz1;omega)));clear hb;go_wp2_with fail;go_ret;exact ⟨A3,c3,rfl,HB2.out⟩
  have KEY:=zh key;clear key;go_enter Tryz.func15,Tryz.ntmps15;go_wp2_with fail;refine (KEY.out _ (zh (HR.out.keep (HAL.out w) fun _ h=>by simp;omega))).mono ?_;rintro e w1 ⟨A2,c2,rfl,hb⟩;have HB1:Hid (Below w.heap.size w w1):=zh ((below_al _ _).trans (hb.mono (by simp)));clear hb;go_wp2_with fail;go_ret;exact ⟨A2,c2,rfl,HB1.out⟩
theorem u8_ne {x c:UInt8} (h:¬ x=c):((x.toNat:Int) == (c.toNat:Int))=false:=by
  rw [beq_eq_false_iff_ne];intro e;exact h (UInt8.toNat_inj.1 (by omega))
set_option maxRecDepth 100000
set_option maxHeartbeats 4000000
section
variable {w w':World} {base g at_:Nat} {s:ByteArray} {l:List Tk}
def EscRes (p:Nat) (o:Option UInt8) (e:Ending):Prop:=(∃ x,o=some x∧e = .returned (.int .u8 x.toNat))∨(o=none∧e = .panicked (badS p))
theorem esc_out {p:Nat} (h:SSt base w g s at_ l) (hp:¬ p+1<s.size) (hpl:p≤140737488355328) (hsl:s.size≤140737488355328) :
    Calls Tryz.prog 149 #[.pointer (some ⟨g,0,none⟩),.int .i64 p] w fun e w'=>e = .panicked (badS p)∧w'=w:=by
  obtain ⟨A,c,R,m,d,xs,hm⟩:=h;have q0:=hm.blk.cell 0;simp at q0;(have hpi:(p:Int)≤140737488355328:=by omega);(have hlt:¬ ((p:Int)+1<(s.size:Int)):=by omega);(have hsi:(s.size:Int)≤140737488355328:=by omega);clear hm;go_enter Tryz.func149,Tryz.ntmps149;go_wp2_with fail;refine bads_calls.mono ?_;rintro e w1 ⟨rfl,hw⟩;subst w1;go_wp2_with fail;exact ⟨rfl,rfl,rfl⟩
theorem esc_in {p:Nat} {x:UInt8} (h:SSt base w g s at_ l) (hp:p+1<s.size) (hx:s[p+1]=x) (hpl:p≤140737488355328) (hsl:s.size≤140737488355328) :
    Calls Tryz.prog 149 #[.pointer (some ⟨g,0,none⟩),.int .i64 p] w fun e w'=>EscRes p (escU x) e∧w'=w:=by
  obtain ⟨A,c,R,m,d,xs,hm⟩:=h;have q0:=hm.blk.cell 0;simp at q0;(have hpi:(p:Int)≤140737488355328:=by omega);(have hlt:(p:Int)+1<(s.size:Int):=by omega);(have hsi:(s.size:Int)≤140737488355328:=by omega);have HX:=zh hx;clear hm;by_cases h92:x=92
  · subst h92
    go_enter Tryz.func149,Tryz.ntmps149;go_wp2_with fail;go_ret;exact ⟨.inl ⟨92,by decide,rfl⟩,rfl⟩
  by_cases h34:x=34
  · subst h34
    go_enter Tryz.func149,Tryz.ntmps149;go_wp2_with fail;go_ret;exact ⟨.inl ⟨34,by decide,rfl⟩,rfl⟩
  by_cases h110:x=110
  · subst h110
    go_enter Tryz.func149,Tryz.ntmps149;go_wp2_with fail;go_ret;exact ⟨.inl ⟨10,by decide,rfl⟩,rfl⟩
  by_cases h116:x=116
  · subst h116
    go_enter Tryz.func149,Tryz.ntmps149;go_wp2_with fail;go_ret;exact ⟨.inl ⟨9,by decide,rfl⟩,rfl⟩
  have f1:((x.toNat:Int) == 92)=false:=u8_ne h92;have f2:((x.toNat:Int) == 34)=false:=u8_ne h34;have f3:((x.toNat:Int) == 110)=false:=u8_ne h110;have f4:((x.toNat:Int) == 116)=false:=u8_ne h116;have HE:Hid (escU x=none):=zh (by unfold escU;rw [if_neg (by rintro (h | h);exact h92 h;exact h34 h),if_neg h110,if_neg h116]);clear h92 h34 h110 h116;go_enter Tryz.func149,Tryz.ntmps149;go_wp2_with fail;refine bads_calls.mono ?_;rintro e w1 ⟨rfl,hw⟩;subst w1;go_wp2_with fail;exact ⟨rfl,.inr ⟨HE.out,rfl⟩,rfl⟩
end
theorem info_u8:(Tryz.prog.info? 5).map (fun i=>(i.zero,i.size,i.bytes))=some (some (.int .u8 0),1,1):=by kernel_rfl
def vb (l:List UInt8):List Value:=l.map fun b=>.int .u8 (b.toNat:Int)
theorem vb_one (l:List UInt8):∀ u ∈ vb l,u.oneCell'=true:=by
  intro u h;obtain ⟨x,_,rfl⟩:=List.mem_map.1 h;rfl
theorem conv_own {w:World} {base:Nat} {l:List UInt8} {v:Value} (h:w.ownsRow base 5 1 v l.length (vb l)):(convert 40 9 v).run Tryz.prog w = .ok (.string ⟨l.toArray⟩) w:=by
  obtain ⟨A,c,rfl⟩:=own_form h;rcases Nat.eq_zero_or_pos l.length with h0 | h0
  · obtain rfl:l=[]:=List.eq_nil_of_length_eq_zero h0
    rcases h.2 with ⟨h1,-⟩ | ⟨g,c',cur,h1,-⟩
    · cases h1
      exact run_convert_bytes_nil w 40 5 Tryz.underlying40 Tryz.underlying5 0 0 9 Tryz.underlying9
    · cases h1
      exact run_convert_bytes_back (P:=Tryz.prog) w 40 9 5 ⟨g,0,none⟩ c [] Tryz.underlying40 Tryz.underlying5 Tryz.underlying9 (fun j hj=>by simp at hj)
  · obtain ⟨g,c',hv,-⟩:=h.form h0
    cases hv
    exact run_convert_bytes_back (P:=Tryz.prog) w 40 9 5 ⟨g,0,none⟩ c l Tryz.underlying40 Tryz.underlying5 Tryz.underlying9 (fun j hj=>by
      have h2:=h.cellAt j (by omega);rw [show Addr.add ⟨g,0,none⟩ j=⟨g,j,none⟩ from by unfold Addr.add;split <;> simp_all,h2]
      simp [vb,List.getElem?_map,List.getElem?_eq_getElem hj])
theorem SSm.but {base:Nat} {w w':World} {g:Nat} {s:ByteArray} {at_ p:Nat} {l:List Tk} {A:Option Addr} {c:Nat} {R:Option Addr} {m d:Nat} {xs:List Value} (h:SSm base w g s at_ l A c R m d xs) (hb:But (fun k=>k=g) w w') (hB:Blk w' g 83 #[.string s,.int .i64 p,.slice A l.length c,.slice R m d]) (hp:at_≤p):SSm base w' g s p l A c R m d xs:=
  ⟨hB,own_same h.tok fun k hk=>hb.block k (h.tok.lt k hk).2 (fun e=>own_blk h.tok h.blk (by decide) (by rw [hk,e])),own_same h.rem fun k hk=>hb.block k (h.rem.lt k hk).2 (fun e=>own_blk h.rem h.blk (by decide) (by rw [hk,e])),Nat.le_trans h.mle hp,h.lo⟩
theorem but_base {base g:Nat} {w w':World} (hb:But (fun k=>k=g) w w') (hg:base≤g) (hw:base≤w.heap.size):Below base w w':=hb.below (fun k _ e=>by subst e;exact hg) hw
set_option maxRecDepth 100000
set_option maxHeartbeats 4000000
section
variable {w w':World} {base g at_:Nat} {s:ByteArray} {l:List Tk}
def TextRes (base:Nat) (w:World) (g:Nat) (s:ByteArray) (at_:Nat) (l:List Tk) (r:Except Int (Nat×List UInt8)) (e:Ending) (w':World):Prop:=
  Below base w w'∧match r with
  | .error p=>e = .panicked (badS p)
  | .ok (q,tx)=>e = .returned (.tuple #[])∧SSt base w' g s q (l ++ [⟨3,at_,q,⟨tx.toArray⟩⟩])
theorem text_calls (h:SSt base w g s at_ l) (hl:l.length≤100000) (hs:s.size≤65536) (hat:at_<s.size) (hbw:base≤w.heap.size) :
    Calls Tryz.prog 115 #[.pointer (some ⟨g,0,none⟩)] w (TextRes base w g s at_ l (textR at_ (s.data.toList.drop (at_+1)) (at_+1) [])):=by
  obtain ⟨A,c,R,m,d,xs,hm⟩:=h;obtain ⟨r,hr⟩:∃ r,textR at_ (s.data.toList.drop (at_+1)) (at_+1) []=r:=⟨_,rfl⟩;rw [hr];have H:=zh hm;have HR:=zh hr;have hlo:=hm.lo;have q0:=hm.blk.cell 0;have q1:=hm.blk.cell 1;simp at q0 q1;have qf:=hm.blk.frozen;have ql:=hm.blk.lt;(have hai:(at_:Int)<(s.size:Int):=by omega);(have hsi:(s.size:Int)≤65536:=by omega);clear hm hr;obtain ⟨i0,hi0,iz0,iz1,iz2⟩:=info_parts info_u8;go_enter Tryz.func115,Tryz.ntmps115;go_wp2_with fail;have HB0:Hid (But (fun k=>k=g) w (w.setCell ⟨g,1,none⟩ (.int .i64 (at_+1)))):=zh ((But.refl (fun k=>k=g) w).set_ (p:=⟨g,1,none⟩) (.inr rfl) _);have HK0:Hid (Blk (w.setCell ⟨g,1,none⟩ (.int .i64 (at_+1))) g 83 #[.string s,.int .i64 ((at_+1:Nat):Int),.slice A l.length c,.slice R m d]):=zh (by simpa using H.out.blk.set_ 1 (.int .i64 (at_+1)));clear q1
  go_loopg [3] (s.size+1 - (at_+1)) (fun f v wr=>∃ (p:Nat) (acc:List UInt8),f=s.size+1 - p∧at_<p∧p≤s.size∧acc.length≤p∧Hid (wr.ownsRow w.heap.size 5 1 v acc.length (vb acc))∧Hid (But (fun k=>k=g) w wr)∧Hid (Blk wr g 83 #[.string s,.int .i64 p,.slice A l.length c,.slice R m d])∧Hid (textR at_ (s.data.toList.drop p) p acc=r))
  case atStart=>exact ⟨at_+1,[],rfl,by omega,by omega,by simp,World.ownsRow_nil _ _ _ _,HB0,HK0,HR⟩
  case round=>
    obtain ⟨p,acc,rfl,hp1,hp2,hal,HO,HB,HK,HT⟩:=hrel;(try rename World=>wr);have q0:=HK.out.cell 0;have q1:=HK.out.cell 1;simp at q0 q1;have qlr:=HK.out.lt;(have hpi:(p:Int)≤(s.size:Int):=by omega);(have hlen:s.data.toList.length=s.size:=by rw [Array.length_toList];rfl);by_cases hp:p<s.size
    case neg=>
      have hge:(p:Int)≥(s.size:Int):=by omega
      obtain rfl:r = .error at_:=by
        have h1:=HT.out;rw [List.drop_eq_nil_of_le (by omega)] at h1;exact h1.symm
      clear HT HR;go_wp2_with fail;refine wp_region_held_drew (S:=(fun w'=>w'.cell? ⟨g,0,none⟩=some (.string s)∧w'.cell? ⟨g,1,none⟩=some (.int .i64 p))) (by kernel_rfl) (by exact ⟨q0,q1⟩) (fun hHeld=>?_);refine drewH ?_ hHeld;clear hHeld;rintro wn hb hHeld;refine startH 22 (by kernel_rfl) (fun hok=>?_);have HBn:=zh (HB.out.then_ hb);clear hb q0 q1;(iterate 11 (refine takeH (v:=?_) hok (by decide) (fun _ _ _ h=>h) (Or.inl ⟨by rfl,?_⟩) (by assumption) ?_;rotate_left;(intro W hSw;(try dsimp only at hSw);go_simp;first | done | rfl);try simp only [Act.put,zl1,zl2,zl3,zl4,zl5,zl6]));iterate 10 (refine takeH (v:=undef) hok (by decide) (fun _ _ _ h=>h) (Or.inr ⟨by rfl,rfl⟩) (by assumption) ?_;try simp only [Act.put,zl1,zl2,zl3,zl4,zl5,zl6])
      (refine takeH (v:=?_) hok (by decide) (fun _ _ _ h=>h) (Or.inl ⟨by rfl,?_⟩) (by assumption) ?_;rotate_left;(intro W hSw;(try dsimp only at hSw);go_simp;first | done | rfl);try simp only [Act.put,zl1,zl2,zl3,zl4,zl5,zl6])
      refine doneH ?_;clear hok;go_wp2_with fail;refine bads_calls.mono ?_;rintro e w1 ⟨rfl,hw⟩;subst w1;go_wp2_with fail;exact ⟨rfl,but_base HBn.out hlo hbw,rfl⟩
    case pos=>
      obtain ⟨x,hx⟩:∃ x,s[p]=x:=⟨_,rfl⟩;(have hlt:(p:Int)<(s.size:Int):=by omega);have hdn:decide (s.size≤p)=false:=decide_eq_false (by omega)
      have hdrop:s.data.toList.drop p=x :: s.data.toList.drop (p+1):=by
        rw [List.drop_eq_getElem_cons (by omega),Array.getElem_toList];exact congrArg (· :: _) hx
      rw [hdrop] at HT;clear hdrop;by_cases h10:x=10
      · subst h10
        obtain rfl:r = .error at_:=by
          have h1:=HT.out;unfold textR at h1;exact h1.symm
        clear HT HR;go_wp2_with fail;refine wp_region_held_drew (S:=(fun w'=>w'.cell? ⟨g,0,none⟩=some (.string s)∧w'.cell? ⟨g,1,none⟩=some (.int .i64 p))) (by kernel_rfl) (by exact ⟨q0,q1⟩) (fun hHeld=>?_);refine drewH ?_ hHeld;clear hHeld;rintro wn hb hHeld;refine startH 22 (by kernel_rfl) (fun hok=>?_);have HBn:=zh (HB.out.then_ hb);clear hb q0 q1;(iterate 22 (refine takeH (v:=?_) hok (by decide) (fun _ _ _ h=>h) (Or.inl ⟨by rfl,?_⟩) (by assumption) ?_;rotate_left;(intro W hSw;(try dsimp only at hSw);go_simp;first | done | rfl);try simp only [Act.put,zl1,zl2,zl3,zl4,zl5,zl6]));refine doneH ?_;clear hok;go_wp2_with fail;refine bads_calls.mono ?_;rintro e w1 ⟨rfl,hw⟩;subst w1;go_wp2_with fail;exact ⟨rfl,but_base HBn.out hlo hbw,rfl⟩
      have f10:((x.toNat:Int) == 10)=false:=u8_ne h10;go_wp2_with fail;refine wp_region_held_drew (S:=(fun w'=>w'.cell? ⟨g,0,none⟩=some (.string s)∧w'.cell? ⟨g,1,none⟩=some (.int .i64 p))) (by kernel_rfl) (by exact ⟨q0,q1⟩) (fun hHeld=>?_);refine drewH ?_ hHeld;clear hHeld;rintro wa hb hHeld;refine startH 22 (by kernel_rfl) (fun hok=>?_);have HK1:Hid (Blk wa g 83 #[.string s,.int .i64 p,.slice A l.length c,.slice R m d]):=zh (HK.out.below hb qlr);have HB1w:Hid (But (fun k=>k=g) w wa):=zh (HB.out.then_ hb);have HO1:Hid (wa.ownsRow w.heap.size 5 1 u3 acc.length (vb acc)):=zh (own_below HO.out hb);have qlr1:g<wa.heap.size:=Nat.lt_of_lt_of_le qlr hb.size;clear hb;clear q0 q1;(iterate 22 (refine takeH (v:=?_) hok (by decide) (fun _ _ _ h=>h) (Or.inl ⟨by rfl,?_⟩) (by assumption) ?_;rotate_left;(intro W hSw;(try dsimp only at hSw);go_simp;first | done | rfl);try simp only [Act.put,zl1,zl2,zl3,zl4,zl5,zl6]));refine doneH ?_;clear hok;have q0:=HK1.out.cell 0;have q1:=HK1.out.cell 1;simp at q0 q1;go_wp2_with fail;refine wp_region_held_drew (S:=(fun w'=>w'.cell? ⟨g,0,none⟩=some (.string s)∧w'.cell? ⟨g,1,none⟩=some (.int .i64 p))) (by kernel_rfl) (by exact ⟨q0,q1⟩) (fun hHeld=>?_);refine drewH ?_ hHeld;clear hHeld;rintro wb hb hHeld;refine startH 10 (by kernel_rfl) (fun hok=>?_);have HK2:Hid (Blk wb g 83 #[.string s,.int .i64 p,.slice A l.length c,.slice R m d]):=zh (HK1.out.below hb qlr1);have HB2w:Hid (But (fun k=>k=g) w wb):=zh (HB1w.out.then_ hb);have HO2:Hid (wb.ownsRow w.heap.size 5 1 u3 acc.length (vb acc)):=zh (own_below HO1.out hb);have qlr2:g<wb.heap.size:=Nat.lt_of_lt_of_le qlr1 hb.size;clear hb;clear q0 q1;(iterate 10 (refine takeH (v:=?_) hok (by decide) (fun _ _ _ h=>h) (Or.inl ⟨by rfl,?_⟩) (by assumption) ?_;rotate_left;(intro W hSw;(try dsimp only at hSw);go_simp;first | done | rfl);try simp only [Act.put,zl1,zl2,zl3,zl4,zl5,zl6]));refine doneH ?_;clear hok;have q0:=HK2.out.cell 0;have q1:=HK2.out.cell 1;simp at q0 q1;have qf:=HK2.out.frozen
      have HK3:Hid (Blk (wb.setCell ⟨g,1,none⟩ (.int .i64 (p+1))) g 83 #[.string s,.int .i64 ((p+1:Nat):Int),.slice A l.length c,.slice R m d]):=zh (by simpa using HK2.out.set_ 1 (.int .i64 (p+1)));have HB3:Hid (But (fun k=>k=g) w (wb.setCell ⟨g,1,none⟩ (.int .i64 (p+1)))):=zh (HB2w.out.set_ (p:=⟨g,1,none⟩) (.inr rfl) _);have HO3:Hid ((wb.setCell ⟨g,1,none⟩ (.int .i64 (p+1))).ownsRow w.heap.size 5 1 u3 acc.length (vb acc)):=zh (own_same HO2.out fun k hk=>Below.heap_setCell wb ⟨g,1,none⟩ _ k (fun e=>by have h9:=(HO2.out.lt k hk).1;have h8:k=g:=e;omega));obtain ⟨w3,hw3⟩:∃ w3,wb.setCell ⟨g,1,none⟩ (.int .i64 (p+1))=w3:=⟨_,rfl⟩;rw [hw3] at HK3 HB3 HO3;have ql3:=HK3.out.lt;have qz3:=HB3.out.size;by_cases h34:x=34
      · subst h34
        obtain rfl:r = .ok (p+1,acc):=by
          have h1:=HT.out;unfold textR at h1;exact h1.symm
        clear HT HR;have HCO:=conv_own HO3.out;go_wp2_with fail;refine (add_calls (base:=base) (at_:=p+1) ⟨_,_,_,_,_,_,H.out.but HB3.out HK3.out (by omega)⟩ (by omega)).mono ?_;rintro e w4 ⟨rfl,hS,hb4⟩;have HS4:=zh hS;have HB4:=zh ((but_base HB3.out hlo hbw).trans hb4);clear hS hb4;go_wp2_with fail;refine bodyPost_ret (results_none rfl _ _ _) rfl ?_;exact ⟨HB4.out,rfl,HS4.out⟩
      have f34:((x.toNat:Int) == 34)=false:=u8_ne h34;by_cases h92:x=92
      · subst h92
        have q0:=HK3.out.cell 0;have q1:=HK3.out.cell 1;simp at q0 q1;have qf:=HK3.out.frozen;by_cases hp3:p+1<s.size
        case neg=>
          obtain rfl:r = .error p:=by
            have h1:=HT.out;rw [List.drop_eq_nil_of_le (by omega)] at h1;unfold textR at h1;exact h1.symm
          clear HT HR;go_wp2_with fail;refine (esc_out (p:=p) ⟨_,_,_,_,_,_,H.out.but HB3.out HK3.out (by omega)⟩ hp3 (by omega) (by omega)).mono ?_;rintro e w1 ⟨rfl,hw⟩;subst w1;go_wp2_with fail;exact ⟨rfl,but_base HB3.out hlo hbw,rfl⟩
        case pos=>
          obtain ⟨y,hy⟩:∃ y,s[p+1]=y:=⟨_,rfl⟩
          have hdrop:s.data.toList.drop (p+1)=y :: s.data.toList.drop (p+2):=by
            rw [List.drop_eq_getElem_cons (by omega),Array.getElem_toList];exact congrArg (· :: _) hy
          rw [hdrop] at HT;clear hdrop;have HY:=zh hy;clear hy;go_wp2_with fail;refine (esc_in (p:=p) ⟨_,_,_,_,_,_,H.out.but HB3.out HK3.out (by omega)⟩ hp3 HY.out (by omega) (by omega)).mono ?_;rintro e w1 ⟨hres,hw⟩;subst w1;rcases hres with ⟨z,hz,rfl⟩ | ⟨hz,rfl⟩
          case inr=>
            obtain rfl:r = .error p:=by
              have h1:=HT.out;unfold textR at h1;rw [if_neg (by decide),if_neg (by decide),if_pos rfl] at h1;simp only [hz] at h1;exact h1.symm
            clear HT HR;go_wp2_with fail;exact ⟨rfl,but_base HB3.out hlo hbw,rfl⟩
          case inl=>
            have HTX:Hid (textR at_ (s.data.toList.drop (p+2)) (p+2) (acc ++ [z])=r):=zh (by
              have h1:=HT.out;unfold textR at h1;rw [if_neg (by decide),if_neg (by decide),if_pos rfl] at h1;simp only [hz] at h1
              exact h1)
            clear HT hz;have HK4:Hid (Blk (w3.setCell ⟨g,1,none⟩ (.int .i64 (p+1+1))) g 83 #[.string s,.int .i64 ((p+2:Nat):Int),.slice A l.length c,.slice R m d]):=zh (by rw [show ((p+2:Nat):Int)=(p:Int)+1+1 from by omega];simpa using HK3.out.set_ 1 (.int .i64 (p+1+1)));have HB4:Hid (But (fun k=>k=g) w (w3.setCell ⟨g,1,none⟩ (.int .i64 (p+1+1)))):=zh (HB3.out.set_ (p:=⟨g,1,none⟩) (.inr rfl) _);have HO4:Hid ((w3.setCell ⟨g,1,none⟩ (.int .i64 (p+1+1))).ownsRow w.heap.size 5 1 u3 acc.length (vb acc)):=zh (own_same HO3.out fun k hk=>Below.heap_setCell w3 ⟨g,1,none⟩ _ k (fun e=>by have h9:=(HO3.out.lt k hk).1;have h8:k=g:=e;omega));obtain ⟨w4,hw4⟩:∃ w4,w3.setCell ⟨g,1,none⟩ (.int .i64 (p+1+1))=w4:=⟨_,rfl⟩;rw [hw4] at HK4 HB4 HO4;have ql4:=HK4.out.lt;have qz4:=HB4.out.size;have HOW:=HO4;go_wp2_with (at_builtin;refine wpList_append_row _ rfl _ _ 40 rfl w.heap.size 5 i0 _ 1 1 Tryz.underlying40 hi0 iz0 iz1 iz2 rfl (by omega) u3 acc.length (vb acc) rfl (HOW.out.alloc _) (fun k=>k=w4.heap.size) (.slice (some ⟨w4.heap.size,0,none⟩) 1 1) 1 (vb [z]) rfl ((Blk.new w4 _ _).row (n:=1) rfl (by unfold maxLen;omega) rfl) (vb_one _) (by unfold maxLen;omega) (by omega) (by simp;omega) ?_);intro v' w5 hown hg hnil hat;have HO5:Hid (w5.ownsRow w.heap.size 5 1 v' (acc ++ [z]).length (vb (acc ++ [z]))):=zh (by simpa [vb] using hown);have hbb:But (fun k=>k=g∨w.heap.size≤k) w4 w5:=(zb.alloc _).trans (But.of_grown (X:=fun k=>w.heap.size≤k) hg (fun b hb=>(HO4.out.lt b hb).1)) (fun k hk h9=>.inr h9);have HB5:Hid (But (fun k=>k=g) w w5):=zh (HB4.out.trans hbb (fun k hk h9=>h9.elim id fun h9=>absurd hk (by omega)));have HK5:Hid (Blk w5 g 83 #[.string s,.int .i64 ((p+2:Nat):Int),.slice A l.length c,.slice R m d]):=zh ((HK4.out.alloc _).grown hg (fun e=>own_blk HO4.out HK4.out (by decide) e.symm));clear hown hg hnil hat hbb HOW;go_wp2_with fail
            go_roundg (s.size+1 - (p+2))
            case measure=>omega
            case rel=>exact ⟨p+2,acc ++ [z],rfl,by omega,by omega,by simp;omega,HO5,HB5,HK5,HTX⟩
      have f92:((x.toNat:Int) == 92)=false:=u8_ne h92
      have HTX:Hid (textR at_ (s.data.toList.drop (p+1)) (p+1) (acc ++ [x])=r):=zh (by
        have h1:=HT.out;unfold textR at h1;rw [if_neg h10,if_neg h34,if_neg h92] at h1
        exact h1)
      clear HT;have HOW:=HO3;go_wp2_with (at_builtin;refine wpList_append_row _ rfl _ _ 40 rfl w.heap.size 5 i0 _ 1 1 Tryz.underlying40 hi0 iz0 iz1 iz2 rfl (by omega) u3 acc.length (vb acc) rfl (HOW.out.alloc _) (fun k=>k=w3.heap.size) (.slice (some ⟨w3.heap.size,0,none⟩) 1 1) 1 (vb [x]) rfl ((Blk.new w3 _ _).row (n:=1) rfl (by unfold maxLen;omega) rfl) (vb_one _) (by unfold maxLen;omega) (by omega) (by simp;omega) ?_);intro v' w5 hown hg hnil hat;have HO5:Hid (w5.ownsRow w.heap.size 5 1 v' (acc ++ [x]).length (vb (acc ++ [x]))):=zh (by simpa [vb] using hown);have hbb:But (fun k=>k=g∨w.heap.size≤k) w3 w5:=(zb.alloc _).trans (But.of_grown (X:=fun k=>w.heap.size≤k) hg (fun b hb=>(HO3.out.lt b hb).1)) (fun k hk h9=>.inr h9);have HB5:Hid (But (fun k=>k=g) w w5):=zh (HB3.out.trans hbb (fun k hk h9=>h9.elim id fun h9=>absurd hk (by omega)));have HK5:Hid (Blk w5 g 83 #[.string s,.int .i64 ((p+1:Nat):Int),.slice A l.length c,.slice R m d]):=zh ((HK3.out.alloc _).grown hg (fun e=>own_blk HO3.out HK3.out (by decide) e.symm));clear hown hg hnil hat hbb HOW;go_wp2_with fail
      go_roundg (s.size+1 - (p+1))
      case measure=>omega
      case rel=>exact ⟨p+1,acc ++ [x],rfl,by omega,by omega,by simp;omega,HO5,HB5,HK5,HTX⟩
end
set_option maxRecDepth 100000
set_option maxHeartbeats 4000000
section
variable {w w':World} {base g at_:Nat} {s:ByteArray} {l:List Tk}
theorem numR_bad {r:List UInt8} (h:(r.headD 0=48∧1<(r.takeWhile digU).length)∨200<(r.takeWhile digU).length∨(∃ c ∈ (r.drop (r.takeWhile digU).length).head?,letU c=true)):numR r=none:=if_pos h
theorem numR_ok {r:List UInt8} (h:¬ ((r.headD 0=48∧1<(r.takeWhile digU).length)∨200<(r.takeWhile digU).length∨(∃ c ∈ (r.drop (r.takeWhile digU).length).head?,letU c=true))):numR r=some (r.takeWhile digU).length:=if_neg h
def NumRes (base:Nat) (w:World) (g:Nat) (s:ByteArray) (at_:Nat) (l:List Tk) (r:Option Nat) (e:Ending) (w':World):Prop:=
  Below base w w'∧match r with
  | none=>e = .panicked (badS at_)
  | some n=>e = .returned (.tuple #[])∧SSt base w' g s (at_+n) (l ++ [⟨2,at_,at_+n,s.extract at_ (at_+n)⟩])
theorem number_calls (h:SSt base w g s at_ l) (hl:l.length≤100000) (hs:s.size≤65536) (hat:at_<s.size) (hd0:digU (s[at_])=true) (hbw:base≤w.heap.size) :
    Calls Tryz.prog 114 #[.pointer (some ⟨g,0,none⟩)] w (NumRes base w g s at_ l (numR (s.data.toList.drop at_))):=by
  obtain ⟨A,c,R,m,d,xs,hm⟩:=h;have H:=zh hm;have hlo:=hm.lo;have q1:=hm.blk.cell 1;simp at q1;have ql:=hm.blk.lt;(have hai:(at_:Int)<(s.size:Int):=by omega);(have hsi:(s.size:Int)≤65536:=by omega);(have hlen:s.data.toList.length=s.size:=by rw [Array.length_toList];rfl);obtain ⟨rst,hrst⟩:∃ rst,s.data.toList.drop at_=rst:=⟨_,rfl⟩;obtain ⟨n,hn⟩:∃ n,(rst.takeWhile digU).length=n:=⟨_,rfl⟩;(have hrl:rst.length=s.size - at_:=by rw [← hrst,List.length_drop,hlen]);have hnl:n≤rst.length:=by rw [← hn];exact tw_le
  have hge:∀ j,(hj:at_+j<s.size)→rst[j]'(by omega)=s[at_+j]:=fun j hj=>by
    subst hrst;rw [List.getElem_drop,Array.getElem_toList];rfl
  have hn1:1≤n:=by
    rw [← hn];exact (tw_step (l:=rst) (m:=0) (Nat.zero_le _) (by omega)).1 (by rw [hge 0 (by omega)];exact hd0)
  have HHD:Hid (rst.headD 0=s[at_]):=zh (by
    rw [List.headD_eq_head?_getD,List.head?_eq_getElem?,List.getElem?_eq_getElem (by omega),hge 0 (by omega)]
    rfl)
  have HST:Hid (∀ p,at_≤p→p≤at_+n→(hp:p<s.size)→(digU (s[p])=true→p+1≤at_+n)∧(digU (s[p])=false→p=at_+n)):=zh (fun p h1 h2 hp=>by
    have h3:=tw_step (p:=digU) (l:=rst) (m:=p - at_) (by omega) (by omega);rw [hge (p - at_) (by omega),hn] at h3;(have e:at_+(p - at_)=p:=by omega);simp only [e] at h3
    exact ⟨fun h=>by have:=h3.1 h;omega,fun h=>by have:=h3.2 h;omega⟩)
  have HNX:Hid ((hp:at_+n<s.size)→(rst.drop n).head? = some s[at_+n]):=zh (fun hp=>by
    rw [List.head?_drop,List.getElem?_eq_getElem (by omega),hge n hp])
  have HNE:Hid (¬ at_+n<s.size→(rst.drop n).head? = none):=zh (fun hp=>by
    rw [List.drop_eq_nil_of_le (by omega)];rfl)
  (have hnb:at_+n≤s.size:=by omega);have HBAD:Hid ((rst.headD 0=48∧1<n)∨200<n∨(∃ c ∈ (rst.drop n).head?,letU c=true)→numR rst=none):=zh (fun h=>numR_bad (by rw [hn];exact h));have HOK:Hid (¬ ((rst.headD 0=48∧1<n)∨200<n∨(∃ c ∈ (rst.drop n).head?,letU c=true))→numR rst=some n):=zh (fun h=>(numR_ok (by rw [hn];exact h)).trans (by rw [hn]));rw [hrst];have HB0:Hid (But (fun k=>k=g) w w):=zh zb;have HK0:=zh hm.blk;clear hm hrst hn hrl hnl hge hd0;go_enter Tryz.func114,Tryz.ntmps114;go_wp2_with fail;clear q1
  go_loopg [] (at_+n - at_) (fun f wr=>∃ (p:Nat),f=at_+n - p∧at_≤p∧p≤at_+n∧Hid (But (fun k=>k=g) w wr)∧Hid (Blk wr g 83 #[.string s,.int .i64 p,.slice A l.length c,.slice R m d]))
  case atStart=>exact ⟨at_,by omega,by omega,by omega,HB0,HK0⟩
  case round=>
    obtain ⟨p,rfl,hp1,hp2,HB,HK⟩:=hrel;(try rename World=>wr);have q0:=HK.out.cell 0;have q1:=HK.out.cell 1;simp at q0 q1;have qlr:=HK.out.lt;(have hpi:(p:Int)≤(s.size:Int):=by omega);by_cases hp:p<s.size
    case neg=>
      have HQ:Hid (p=at_+n):=zh (by omega);have hdn0:decide (p<s.size)=false:=decide_eq_false hp;go_wp2_with fail;refine wp_region_held_drew (S:=(fun w'=>w'.cell? ⟨g,0,none⟩=some (.string s)∧w'.cell? ⟨g,1,none⟩=some (.int .i64 p))) (by kernel_rfl) (by exact ⟨q0,q1⟩) (fun hHeld=>?_);refine drewH ?_ hHeld;clear hHeld;rintro wa hb hHeld;refine startH 22 (by kernel_rfl) (fun hok=>?_);have HK1:Hid (Blk wa g 83 #[.string s,.int .i64 p,.slice A l.length c,.slice R m d]):=zh (HK.out.below hb qlr);have HB1:Hid (But (fun k=>k=g) w wa):=zh (HB.out.then_ hb);have qlr1:g<wa.heap.size:=Nat.lt_of_lt_of_le qlr hb.size;clear hb;clear q0 q1;(iterate 11 (refine takeH (v:=?_) hok (by decide) (fun _ _ _ h=>h) (Or.inl ⟨by rfl,?_⟩) (by assumption) ?_;rotate_left;(intro W hSw;(try dsimp only at hSw);go_simp;first | done | rfl);try simp only [Act.put,zl1,zl2,zl3,zl4,zl5,zl6]));iterate 10 (refine takeH (v:=undef) hok (by decide) (fun _ _ _ h=>h) (Or.inr ⟨by rfl,rfl⟩) (by assumption) ?_;try simp only [Act.put,zl1,zl2,zl3,zl4,zl5,zl6])
      (refine takeH (v:=?_) hok (by decide) (fun _ _ _ h=>h) (Or.inl ⟨by rfl,?_⟩) (by assumption) ?_;rotate_left;(intro W hSw;(try dsimp only at hSw);go_simp;first | done | rfl);try simp only [Act.put,zl1,zl2,zl3,zl4,zl5,zl6])
      refine doneH ?_;clear hok;(obtain rfl:n=p - at_:=by have h9:=HQ.out;omega);(have he:at_+(p - at_)=p:=by omega);clear HST;replace HNX:Hid ((hp:p<s.size)→(rst.drop (p - at_)).head? = some s[p]):=zh (fun hp=>by have h9:=HNX.out (by omega);simp only [he] at h9;exact h9);replace HNE:Hid (¬ p<s.size→(rst.drop (p - at_)).head? = none):=zh (fun hp=>HNE.out (by omega));go_wp2_with fail;have q0:=HK1.out.cell 0;have q1:=HK1.out.cell 1;simp at q0 q1;(have hle1:at_≤p:=by omega);have HEE:=zh he;clear he;refine wp_region_held_drew (S:=(fun w'=>w'.cell? ⟨g,0,none⟩=some (.string s)∧w'.cell? ⟨g,1,none⟩=some (.int .i64 p))) (by kernel_rfl) (by exact ⟨q0,q1⟩) (fun hHeld=>?_);refine drewH ?_ hHeld;clear hHeld;rintro wc hb hHeld;refine startH 11 (by kernel_rfl) (fun hok=>?_);have HK2:Hid (Blk wc g 83 #[.string s,.int .i64 p,.slice A l.length c,.slice R m d]):=zh (HK1.out.below hb qlr1);have HB2:Hid (But (fun k=>k=g) w wc):=zh (HB1.out.then_ hb);have qlr2:g<wc.heap.size:=Nat.lt_of_lt_of_le qlr1 hb.size;clear hb;clear q0 q1;(iterate 11 (refine takeH (v:=?_) hok (by decide) (fun _ _ _ h=>h) (Or.inl ⟨by rfl,?_⟩) (by assumption) ?_;rotate_left;(intro W hSw;(try dsimp only at hSw);go_simp;first | done | rfl);try simp only [Act.put,zl1,zl2,zl3,zl4,zl5,zl6]));refine doneH ?_;clear hok;obtain ⟨tx,htx⟩:∃ tx,s.extract at_ p=tx:=⟨_,rfl⟩;(have hsz:tx.size=p - at_:=by rw [← htx,ByteArray.size_extract];omega);(have htz:0<tx.size:=by omega);obtain ⟨c0,hc0⟩:∃ c0,tx[0]=c0:=⟨_,rfl⟩;have HC0:Hid (rst.headD 0=c0):=zh (by rw [HHD.out,← hc0];subst htx;simp [ByteArray.getElem_extract]);have HTX:=zh htx;(have hd200:decide (200<tx.size)=decide (200<p - at_):=by rw [hsz]);(have hd1:decide (1<tx.size)=decide (1<p - at_):=by rw [hsz]);clear hsz;go_wp2_with fail;rw [htx];clear htx;have q0:=HK2.out.cell 0;have q1:=HK2.out.cell 1;simp at q0 q1;by_cases h48:c0=48
      · subst h48
        by_cases h1n:1<p - at_
        · rw [decide_eq_true h1n] at hd1
          have hp1:1<tx.size:=of_decide_eq_true hd1;(have hpi1:(1:Int)<(tx.size:Int):=by omega);have hd1i:decide ((1:Int)<(tx.size:Int))=true:=decide_eq_true hpi1;refine wp_region_held_drew (S:=(fun w'=>w'.cell? ⟨g,0,none⟩=some (.string s)∧w'.cell? ⟨g,1,none⟩=some (.int .i64 p))) (by kernel_rfl) (by exact ⟨q0,q1⟩) (fun hHeld=>?_);refine drewH ?_ hHeld;clear hHeld;rintro wd hb hHeld;refine startH 37 (by kernel_rfl) (fun hok=>?_);have HK3:Hid (Blk wd g 83 #[.string s,.int .i64 p,.slice A l.length c,.slice R m d]):=zh (HK2.out.below hb qlr2);have HB3:Hid (But (fun k=>k=g) w wd):=zh (HB2.out.then_ hb);have qlr3:g<wd.heap.size:=Nat.lt_of_lt_of_le qlr2 hb.size;clear hb;clear q0 q1;(iterate 9 (refine takeH (v:=?_) hok (by decide) (fun _ _ _ h=>h) (Or.inl ⟨by rfl,?_⟩) (by assumption) ?_;rotate_left;(intro W hSw;(try dsimp only at hSw);go_simp;first | done | rfl);try simp only [Act.put,zl1,zl2,zl3,zl4,zl5,zl6]));(iterate 3 (refine takeH (v:=undef) hok (by decide) (fun _ _ _ h=>h) (Or.inr ⟨by rfl,rfl⟩) (by assumption) ?_;try simp only [Act.put,zl1,zl2,zl3,zl4,zl5,zl6]));(iterate 2 (refine takeH (v:=?_) hok (by decide) (fun _ _ _ h=>h) (Or.inl ⟨by rfl,?_⟩) (by assumption) ?_;rotate_left;(intro W hSw;(try dsimp only at hSw);go_simp;first | done | rfl);try simp only [Act.put,zl1,zl2,zl3,zl4,zl5,zl6]));iterate 22 (refine takeH (v:=undef) hok (by decide) (fun _ _ _ h=>h) (Or.inr ⟨by rfl,rfl⟩) (by assumption) ?_;try simp only [Act.put,zl1,zl2,zl3,zl4,zl5,zl6])
          (refine takeH (v:=?_) hok (by decide) (fun _ _ _ h=>h) (Or.inl ⟨by rfl,?_⟩) (by assumption) ?_;rotate_left;(intro W hSw;(try dsimp only at hSw);go_simp;first | done | rfl);try simp only [Act.put,zl1,zl2,zl3,zl4,zl5,zl6])
          refine doneH ?_;clear hok;go_wp2_with fail;refine bads_calls.mono ?_;rintro e w1 ⟨rfl,hw⟩;subst w1;go_wp2_with fail;have HNR:=HBAD.out (.inl ⟨HC0.out,h1n⟩);rw [HNR];exact ⟨rfl,but_base HB3.out hlo hbw,rfl⟩
        rw [decide_eq_false h1n] at hd1;rw [decide_eq_false (show ¬ 200<p - at_ by omega)] at hd200;have hp1:¬ 1<tx.size:=of_decide_eq_false hd1;(have hpi1:¬ (1:Int)<(tx.size:Int):=by omega);have hd1i:decide ((1:Int)<(tx.size:Int))=false:=decide_eq_false hpi1;have hp200:¬ 200<tx.size:=of_decide_eq_false hd200;(have hpi200:¬ (200:Int)<(tx.size:Int):=by omega);have hd200i:decide ((200:Int)<(tx.size:Int))=false:=decide_eq_false hpi200;have hq2:=hp;have hdn:decide (p<s.size)=false:=decide_eq_false hq2;have HQ2:=zh hq2;refine wp_region_held_drew (S:=(fun w'=>w'.cell? ⟨g,0,none⟩=some (.string s)∧w'.cell? ⟨g,1,none⟩=some (.int .i64 p))) (by kernel_rfl) (by exact ⟨q0,q1⟩) (fun hHeld=>?_);refine drewH ?_ hHeld;clear hHeld;rintro wd hb hHeld;refine startH 37 (by kernel_rfl) (fun hok=>?_);have HK3:Hid (Blk wd g 83 #[.string s,.int .i64 p,.slice A l.length c,.slice R m d]):=zh (HK2.out.below hb qlr2);have HB3:Hid (But (fun k=>k=g) w wd):=zh (HB2.out.then_ hb);have qlr3:g<wd.heap.size:=Nat.lt_of_lt_of_le qlr2 hb.size;clear hb;clear q0 q1;(iterate 14 (refine takeH (v:=?_) hok (by decide) (fun _ _ _ h=>h) (Or.inl ⟨by rfl,?_⟩) (by assumption) ?_;rotate_left;(intro W hSw;(try dsimp only at hSw);go_simp;first | done | rfl);try simp only [Act.put,zl1,zl2,zl3,zl4,zl5,zl6]));(iterate 11 (refine takeH (v:=?_) hok (by decide) (fun _ _ _ h=>h) (Or.inl ⟨by rfl,?_⟩) (by assumption) ?_;rotate_left;(intro W hSw;(try dsimp only at hSw);go_simp;first | done | rfl);try simp only [Act.put,zl1,zl2,zl3,zl4,zl5,zl6]));(iterate 10 (refine takeH (v:=undef) hok (by decide) (fun _ _ _ h=>h) (Or.inr ⟨by rfl,rfl⟩) (by assumption) ?_;try simp only [Act.put,zl1,zl2,zl3,zl4,zl5,zl6]))
        (iterate 2 (refine takeH (v:=?_) hok (by decide) (fun _ _ _ h=>h) (Or.inl ⟨by rfl,?_⟩) (by assumption) ?_;rotate_left;(intro W hSw;(try dsimp only at hSw);go_simp;first | done | rfl);try simp only [Act.put,zl1,zl2,zl3,zl4,zl5,zl6]));refine doneH ?_;clear hok;have HNR:=zh (HOK.out (by rintro (h | h | ⟨x,hx,-⟩);exact h1n h.2;omega;rw [HNE.out hq2] at hx;cases hx));go_wp2_with fail;refine (add_calls (base:=base) (at_:=p) ⟨_,_,_,_,_,_,H.out.but HB3.out HK3.out (by omega)⟩ (by omega)).mono ?_;rintro e w4 ⟨rfl,hS,hb4⟩;have HS4:=zh hS;have HB4:=zh ((but_base HB3.out hlo hbw).trans hb4);clear hS hb4;go_wp2_with fail
        go_end0
        refine ⟨HB4.out,?_⟩;rw [HNR.out];refine ⟨rfl,?_⟩;rw [HEE.out,show ((at_:Int)+((p - at_:Nat):Int))=(p:Int) from by omega,HTX.out];exact HS4.out
      have f48:((c0.toNat:Int) == 48)=false:=u8_ne h48;have H48:Hid (¬ c0=48):=zh h48;by_cases h200:200<p - at_
      · rw [decide_eq_true h200] at hd200
        have hp200:200<tx.size:=of_decide_eq_true hd200;(have hpi200:(200:Int)<(tx.size:Int):=by omega);have hd200i:decide ((200:Int)<(tx.size:Int))=true:=decide_eq_true hpi200;refine wp_region_held_drew (S:=(fun w'=>w'.cell? ⟨g,0,none⟩=some (.string s)∧w'.cell? ⟨g,1,none⟩=some (.int .i64 p))) (by kernel_rfl) (by exact ⟨q0,q1⟩) (fun hHeld=>?_);refine drewH ?_ hHeld;clear hHeld;rintro wd hb hHeld;refine startH 37 (by kernel_rfl) (fun hok=>?_);have HK3:Hid (Blk wd g 83 #[.string s,.int .i64 p,.slice A l.length c,.slice R m d]):=zh (HK2.out.below hb qlr2);have HB3:Hid (But (fun k=>k=g) w wd):=zh (HB2.out.then_ hb);have qlr3:g<wd.heap.size:=Nat.lt_of_lt_of_le qlr2 hb.size;clear hb;clear q0 q1;(iterate 4 (refine takeH (v:=?_) hok (by decide) (fun _ _ _ h=>h) (Or.inl ⟨by rfl,?_⟩) (by assumption) ?_;rotate_left;(intro W hSw;(try dsimp only at hSw);go_simp;first | done | rfl);try simp only [Act.put,zl1,zl2,zl3,zl4,zl5,zl6]));(iterate 3 (refine takeH (v:=undef) hok (by decide) (fun _ _ _ h=>h) (Or.inr ⟨by rfl,rfl⟩) (by assumption) ?_;try simp only [Act.put,zl1,zl2,zl3,zl4,zl5,zl6]));(iterate 7 (refine takeH (v:=?_) hok (by decide) (fun _ _ _ h=>h) (Or.inl ⟨by rfl,?_⟩) (by assumption) ?_;rotate_left;(intro W hSw;(try dsimp only at hSw);go_simp;first | done | rfl);try simp only [Act.put,zl1,zl2,zl3,zl4,zl5,zl6]));iterate 22 (refine takeH (v:=undef) hok (by decide) (fun _ _ _ h=>h) (Or.inr ⟨by rfl,rfl⟩) (by assumption) ?_;try simp only [Act.put,zl1,zl2,zl3,zl4,zl5,zl6])
        (refine takeH (v:=?_) hok (by decide) (fun _ _ _ h=>h) (Or.inl ⟨by rfl,?_⟩) (by assumption) ?_;rotate_left;(intro W hSw;(try dsimp only at hSw);go_simp;first | done | rfl);try simp only [Act.put,zl1,zl2,zl3,zl4,zl5,zl6])
        refine doneH ?_;clear hok;go_wp2_with fail;refine bads_calls.mono ?_;rintro e w1 ⟨rfl,hw⟩;subst w1;go_wp2_with fail;have HNR:=HBAD.out (.inr (.inl h200));rw [HNR];exact ⟨rfl,but_base HB3.out hlo hbw,rfl⟩
      rw [decide_eq_false h200] at hd200;have hp200:¬ 200<tx.size:=of_decide_eq_false hd200;(have hpi200:¬ (200:Int)<(tx.size:Int):=by omega);have hd200i:decide ((200:Int)<(tx.size:Int))=false:=decide_eq_false hpi200;have hq2:=hp;have hdn:decide (p<s.size)=false:=decide_eq_false hq2;have HQ2:=zh hq2;refine wp_region_held_drew (S:=(fun w'=>w'.cell? ⟨g,0,none⟩=some (.string s)∧w'.cell? ⟨g,1,none⟩=some (.int .i64 p))) (by kernel_rfl) (by exact ⟨q0,q1⟩) (fun hHeld=>?_);refine drewH ?_ hHeld;clear hHeld;rintro wd hb hHeld;refine startH 37 (by kernel_rfl) (fun hok=>?_);have HK3:Hid (Blk wd g 83 #[.string s,.int .i64 p,.slice A l.length c,.slice R m d]):=zh (HK2.out.below hb qlr2);have HB3:Hid (But (fun k=>k=g) w wd):=zh (HB2.out.then_ hb);have qlr3:g<wd.heap.size:=Nat.lt_of_lt_of_le qlr2 hb.size;clear hb;clear q0 q1;(iterate 4 (refine takeH (v:=?_) hok (by decide) (fun _ _ _ h=>h) (Or.inl ⟨by rfl,?_⟩) (by assumption) ?_;rotate_left;(intro W hSw;(try dsimp only at hSw);go_simp;first | done | rfl);try simp only [Act.put,zl1,zl2,zl3,zl4,zl5,zl6]));(iterate 3 (refine takeH (v:=undef) hok (by decide) (fun _ _ _ h=>h) (Or.inr ⟨by rfl,rfl⟩) (by assumption) ?_;try simp only [Act.put,zl1,zl2,zl3,zl4,zl5,zl6]));(iterate 7 (refine takeH (v:=?_) hok (by decide) (fun _ _ _ h=>h) (Or.inl ⟨by rfl,?_⟩) (by assumption) ?_;rotate_left;(intro W hSw;(try dsimp only at hSw);go_simp;first | done | rfl);try simp only [Act.put,zl1,zl2,zl3,zl4,zl5,zl6]));(iterate 11 (refine takeH (v:=?_) hok (by decide) (fun _ _ _ h=>h) (Or.inl ⟨by rfl,?_⟩) (by assumption) ?_;rotate_left;(intro W hSw;(try dsimp only at hSw);go_simp;first | done | rfl);try simp only [Act.put,zl1,zl2,zl3,zl4,zl5,zl6]))
      (iterate 10 (refine takeH (v:=undef) hok (by decide) (fun _ _ _ h=>h) (Or.inr ⟨by rfl,rfl⟩) (by assumption) ?_;try simp only [Act.put,zl1,zl2,zl3,zl4,zl5,zl6]));(iterate 2 (refine takeH (v:=?_) hok (by decide) (fun _ _ _ h=>h) (Or.inl ⟨by rfl,?_⟩) (by assumption) ?_;rotate_left;(intro W hSw;(try dsimp only at hSw);go_simp;first | done | rfl);try simp only [Act.put,zl1,zl2,zl3,zl4,zl5,zl6]));refine doneH ?_;clear hok;have HNR:=zh (HOK.out (by rintro (h | h | ⟨x,hx,-⟩);exact H48.out (HC0.out.symm.trans h.1);exact h200 h;rw [HNE.out hq2] at hx;cases hx));go_wp2_with fail;refine (add_calls (base:=base) (at_:=p) ⟨_,_,_,_,_,_,H.out.but HB3.out HK3.out (by omega)⟩ (by omega)).mono ?_;rintro e w4 ⟨rfl,hS,hb4⟩;have HS4:=zh hS;have HB4:=zh ((but_base HB3.out hlo hbw).trans hb4);clear hS hb4;go_wp2_with fail
      go_end0
      refine ⟨HB4.out,?_⟩;rw [HNR.out];refine ⟨rfl,?_⟩;rw [HEE.out,show ((at_:Int)+((p - at_:Nat):Int))=(p:Int) from by omega,HTX.out];exact HS4.out
    case pos=>
      (have hlt:(p:Int)<(s.size:Int):=by omega);have hdn0:decide (p<s.size)=true:=decide_eq_true hp;obtain ⟨x0,hx0⟩:∃ x,s[p]=x:=⟨_,rfl⟩;have HSTP:=zh (HST.out p hp1 hp2 hp);rw [hx0] at HSTP;go_wp2_with fail;by_cases hdg:digitN x0.toNat=true
      case pos=>
        refine wp_region_held_drew (S:=(fun w'=>w'.cell? ⟨g,0,none⟩=some (.string s)∧w'.cell? ⟨g,1,none⟩=some (.int .i64 p))) (by kernel_rfl) (by exact ⟨q0,q1⟩) (fun hHeld=>?_);refine drewH ?_ hHeld;clear hHeld;rintro wa hb hHeld;refine startH 22 (by kernel_rfl) (fun hok=>?_);have HK1:Hid (Blk wa g 83 #[.string s,.int .i64 p,.slice A l.length c,.slice R m d]):=zh (HK.out.below hb qlr);have HB1:Hid (But (fun k=>k=g) w wa):=zh (HB.out.then_ hb);have qlr1:g<wa.heap.size:=Nat.lt_of_lt_of_le qlr hb.size;clear hb;clear q0 q1;(iterate 20 (refine takeH (v:=?_) hok (by decide) (fun _ _ _ h=>h) (Or.inl ⟨by rfl,?_⟩) (by assumption) ?_;rotate_left;(intro W hSw;(try dsimp only at hSw);go_simp;first | done | rfl);try simp only [Act.put,zl1,zl2,zl3,zl4,zl5,zl6]));refine callH (by kernel_rfl) (fun K hK=>?_);go_simp
        go_at_call 113
        refine digit_calls.mono ?_;rintro e w1 ⟨rfl,hw⟩;subst w1;rw [hdg];refine hK.out _ _ hHeld (fun hHeld=>?_);clear hK K;try simp only [Act.put,zl1,zl2,zl3,zl4,zl5,zl6]
        (refine takeH (v:=?_) hok (by decide) (fun _ _ _ h=>h) (Or.inl ⟨by rfl,?_⟩) (by assumption) ?_;rotate_left;(intro W hSw;(try dsimp only at hSw);go_simp;first | done | rfl);try simp only [Act.put,zl1,zl2,zl3,zl4,zl5,zl6])
        refine doneH ?_;clear hok;have q0:=HK1.out.cell 0;have q1:=HK1.out.cell 1;simp at q0 q1;have qf:=HK1.out.frozen;have hp3:=HSTP.out.1 hdg;have HK2:Hid (Blk (wa.setCell ⟨g,1,none⟩ (.int .i64 (p+1))) g 83 #[.string s,.int .i64 ((p+1:Nat):Int),.slice A l.length c,.slice R m d]):=zh (by simpa using HK1.out.set_ 1 (.int .i64 (p+1)));have HB2:Hid (But (fun k=>k=g) w (wa.setCell ⟨g,1,none⟩ (.int .i64 (p+1)))):=zh (HB1.out.set_ (p:=⟨g,1,none⟩) (.inr rfl) _);go_wp2_with fail
        go_roundg (at_+n - (p+1))
        case measure=>omega
        case rel=>exact ⟨p+1,rfl,by omega,by omega,HB2,HK2⟩
      case neg=>
        replace hdg:=Bool.eq_false_iff.2 hdg;have HQ:Hid (p=at_+n):=zh (HSTP.out.2 hdg);refine wp_region_held_drew (S:=(fun w'=>w'.cell? ⟨g,0,none⟩=some (.string s)∧w'.cell? ⟨g,1,none⟩=some (.int .i64 p))) (by kernel_rfl) (by exact ⟨q0,q1⟩) (fun hHeld=>?_);refine drewH ?_ hHeld;clear hHeld;rintro wa hb hHeld;refine startH 22 (by kernel_rfl) (fun hok=>?_);have HK1:Hid (Blk wa g 83 #[.string s,.int .i64 p,.slice A l.length c,.slice R m d]):=zh (HK.out.below hb qlr);have HB1:Hid (But (fun k=>k=g) w wa):=zh (HB.out.then_ hb);have qlr1:g<wa.heap.size:=Nat.lt_of_lt_of_le qlr hb.size;clear hb;clear q0 q1;(iterate 20 (refine takeH (v:=?_) hok (by decide) (fun _ _ _ h=>h) (Or.inl ⟨by rfl,?_⟩) (by assumption) ?_;rotate_left;(intro W hSw;(try dsimp only at hSw);go_simp;first | done | rfl);try simp only [Act.put,zl1,zl2,zl3,zl4,zl5,zl6]));refine callH (by kernel_rfl) (fun K hK=>?_);go_simp
        go_at_call 113
        refine digit_calls.mono ?_;rintro e w1 ⟨rfl,hw⟩;subst w1;rw [hdg];refine hK.out _ _ hHeld (fun hHeld=>?_);clear hK K;try simp only [Act.put,zl1,zl2,zl3,zl4,zl5,zl6]
        (refine takeH (v:=?_) hok (by decide) (fun _ _ _ h=>h) (Or.inl ⟨by rfl,?_⟩) (by assumption) ?_;rotate_left;(intro W hSw;(try dsimp only at hSw);go_simp;first | done | rfl);try simp only [Act.put,zl1,zl2,zl3,zl4,zl5,zl6])
        refine doneH ?_;clear hok;clear hdn0 hlt hx0 HSTP;(obtain rfl:n=p - at_:=by have h9:=HQ.out;omega);(have he:at_+(p - at_)=p:=by omega);clear HST;replace HNX:Hid ((hp:p<s.size)→(rst.drop (p - at_)).head? = some s[p]):=zh (fun hp=>by have h9:=HNX.out (by omega);simp only [he] at h9;exact h9);replace HNE:Hid (¬ p<s.size→(rst.drop (p - at_)).head? = none):=zh (fun hp=>HNE.out (by omega));go_wp2_with fail;have q0:=HK1.out.cell 0;have q1:=HK1.out.cell 1;simp at q0 q1;(have hle1:at_≤p:=by omega);have HEE:=zh he;clear he;refine wp_region_held_drew (S:=(fun w'=>w'.cell? ⟨g,0,none⟩=some (.string s)∧w'.cell? ⟨g,1,none⟩=some (.int .i64 p))) (by kernel_rfl) (by exact ⟨q0,q1⟩) (fun hHeld=>?_);refine drewH ?_ hHeld;clear hHeld;rintro wc hb hHeld;refine startH 11 (by kernel_rfl) (fun hok=>?_);have HK2:Hid (Blk wc g 83 #[.string s,.int .i64 p,.slice A l.length c,.slice R m d]):=zh (HK1.out.below hb qlr1);have HB2:Hid (But (fun k=>k=g) w wc):=zh (HB1.out.then_ hb);have qlr2:g<wc.heap.size:=Nat.lt_of_lt_of_le qlr1 hb.size;clear hb;clear q0 q1;(iterate 11 (refine takeH (v:=?_) hok (by decide) (fun _ _ _ h=>h) (Or.inl ⟨by rfl,?_⟩) (by assumption) ?_;rotate_left;(intro W hSw;(try dsimp only at hSw);go_simp;first | done | rfl);try simp only [Act.put,zl1,zl2,zl3,zl4,zl5,zl6]));refine doneH ?_;clear hok;obtain ⟨tx,htx⟩:∃ tx,s.extract at_ p=tx:=⟨_,rfl⟩;(have hsz:tx.size=p - at_:=by rw [← htx,ByteArray.size_extract];omega);(have htz:0<tx.size:=by omega);obtain ⟨c0,hc0⟩:∃ c0,tx[0]=c0:=⟨_,rfl⟩;have HC0:Hid (rst.headD 0=c0):=zh (by rw [HHD.out,← hc0];subst htx;simp [ByteArray.getElem_extract]);have HTX:=zh htx;(have hd200:decide (200<tx.size)=decide (200<p - at_):=by rw [hsz]);(have hd1:decide (1<tx.size)=decide (1<p - at_):=by rw [hsz]);clear hsz;go_wp2_with fail;rw [htx];clear htx;have q0:=HK2.out.cell 0;have q1:=HK2.out.cell 1;simp at q0 q1;by_cases h48:c0=48
        · subst h48
          by_cases h1n:1<p - at_
          · rw [decide_eq_true h1n] at hd1
            have hp1:1<tx.size:=of_decide_eq_true hd1;(have hpi1:(1:Int)<(tx.size:Int):=by omega);have hd1i:decide ((1:Int)<(tx.size:Int))=true:=decide_eq_true hpi1;refine wp_region_held_drew (S:=(fun w'=>w'.cell? ⟨g,0,none⟩=some (.string s)∧w'.cell? ⟨g,1,none⟩=some (.int .i64 p))) (by kernel_rfl) (by exact ⟨q0,q1⟩) (fun hHeld=>?_);refine drewH ?_ hHeld;clear hHeld;rintro wd hb hHeld;refine startH 37 (by kernel_rfl) (fun hok=>?_);have HK3:Hid (Blk wd g 83 #[.string s,.int .i64 p,.slice A l.length c,.slice R m d]):=zh (HK2.out.below hb qlr2);have HB3:Hid (But (fun k=>k=g) w wd):=zh (HB2.out.then_ hb);have qlr3:g<wd.heap.size:=Nat.lt_of_lt_of_le qlr2 hb.size;clear hb;clear q0 q1;(iterate 9 (refine takeH (v:=?_) hok (by decide) (fun _ _ _ h=>h) (Or.inl ⟨by rfl,?_⟩) (by assumption) ?_;rotate_left;(intro W hSw;(try dsimp only at hSw);go_simp;first | done | rfl);try simp only [Act.put,zl1,zl2,zl3,zl4,zl5,zl6]));(iterate 3 (refine takeH (v:=undef) hok (by decide) (fun _ _ _ h=>h) (Or.inr ⟨by rfl,rfl⟩) (by assumption) ?_;try simp only [Act.put,zl1,zl2,zl3,zl4,zl5,zl6]));(iterate 2 (refine takeH (v:=?_) hok (by decide) (fun _ _ _ h=>h) (Or.inl ⟨by rfl,?_⟩) (by assumption) ?_;rotate_left;(intro W hSw;(try dsimp only at hSw);go_simp;first | done | rfl);try simp only [Act.put,zl1,zl2,zl3,zl4,zl5,zl6]));iterate 22 (refine takeH (v:=undef) hok (by decide) (fun _ _ _ h=>h) (Or.inr ⟨by rfl,rfl⟩) (by assumption) ?_;try simp only [Act.put,zl1,zl2,zl3,zl4,zl5,zl6])
            (refine takeH (v:=?_) hok (by decide) (fun _ _ _ h=>h) (Or.inl ⟨by rfl,?_⟩) (by assumption) ?_;rotate_left;(intro W hSw;(try dsimp only at hSw);go_simp;first | done | rfl);try simp only [Act.put,zl1,zl2,zl3,zl4,zl5,zl6])
            refine doneH ?_;clear hok;go_wp2_with fail;refine bads_calls.mono ?_;rintro e w1 ⟨rfl,hw⟩;subst w1;go_wp2_with fail;have HNR:=HBAD.out (.inl ⟨HC0.out,h1n⟩);rw [HNR];exact ⟨rfl,but_base HB3.out hlo hbw,rfl⟩
          rw [decide_eq_false h1n] at hd1;rw [decide_eq_false (show ¬ 200<p - at_ by omega)] at hd200;have hp1:¬ 1<tx.size:=of_decide_eq_false hd1;(have hpi1:¬ (1:Int)<(tx.size:Int):=by omega);have hd1i:decide ((1:Int)<(tx.size:Int))=false:=decide_eq_false hpi1;have hp200:¬ 200<tx.size:=of_decide_eq_false hd200;(have hpi200:¬ (200:Int)<(tx.size:Int):=by omega);have hd200i:decide ((200:Int)<(tx.size:Int))=false:=decide_eq_false hpi200;have hq2:=hp;have hdn:decide (p<s.size)=true:=decide_eq_true hq2;obtain ⟨x,hx⟩:∃ x,s[p]=x:=⟨_,rfl⟩;have HX:=zh hx;(have hqi:(p:Int)<(s.size:Int):=by omega);by_cases hlet:letterN x.toNat=true
          case pos=>
            refine wp_region_held_drew (S:=(fun w'=>w'.cell? ⟨g,0,none⟩=some (.string s)∧w'.cell? ⟨g,1,none⟩=some (.int .i64 p))) (by kernel_rfl) (by exact ⟨q0,q1⟩) (fun hHeld=>?_);refine drewH ?_ hHeld;clear hHeld;rintro wd hb hHeld;refine startH 37 (by kernel_rfl) (fun hok=>?_);have HK3:Hid (Blk wd g 83 #[.string s,.int .i64 p,.slice A l.length c,.slice R m d]):=zh (HK2.out.below hb qlr2);have HB3:Hid (But (fun k=>k=g) w wd):=zh (HB2.out.then_ hb);have qlr3:g<wd.heap.size:=Nat.lt_of_lt_of_le qlr2 hb.size;clear hb;clear q0 q1;(iterate 14 (refine takeH (v:=?_) hok (by decide) (fun _ _ _ h=>h) (Or.inl ⟨by rfl,?_⟩) (by assumption) ?_;rotate_left;(intro W hSw;(try dsimp only at hSw);go_simp;first | done | rfl);try simp only [Act.put,zl1,zl2,zl3,zl4,zl5,zl6]));(iterate 20 (refine takeH (v:=?_) hok (by decide) (fun _ _ _ h=>h) (Or.inl ⟨by rfl,?_⟩) (by assumption) ?_;rotate_left;(intro W hSw;(try dsimp only at hSw);go_simp;first | done | rfl);try simp only [Act.put,zl1,zl2,zl3,zl4,zl5,zl6]));refine callH (by kernel_rfl) (fun K hK=>?_);go_simp
            go_at_call 144
            refine letter_calls.mono ?_;rintro e w1 ⟨rfl,hw⟩;subst w1;rw [hlet];refine hK.out _ _ hHeld (fun hHeld=>?_);clear hK K;(try simp only [Act.put,zl1,zl2,zl3,zl4,zl5,zl6]);(iterate 2 (refine takeH (v:=?_) hok (by decide) (fun _ _ _ h=>h) (Or.inl ⟨by rfl,?_⟩) (by assumption) ?_;rotate_left;(intro W hSw;(try dsimp only at hSw);go_simp;first | done | rfl);try simp only [Act.put,zl1,zl2,zl3,zl4,zl5,zl6]));refine doneH ?_;clear hok;go_wp2_with fail;refine bads_calls.mono ?_;rintro e w1 ⟨rfl,hw⟩;subst w1;go_wp2_with fail;have HNR:=HBAD.out (.inr (.inr ⟨x,by rw [HNX.out hq2,HX.out];rfl,hlet⟩));rw [HNR];exact ⟨rfl,but_base HB3.out hlo hbw,rfl⟩
          case neg=>
            replace hlet:=Bool.eq_false_iff.2 hlet;refine wp_region_held_drew (S:=(fun w'=>w'.cell? ⟨g,0,none⟩=some (.string s)∧w'.cell? ⟨g,1,none⟩=some (.int .i64 p))) (by kernel_rfl) (by exact ⟨q0,q1⟩) (fun hHeld=>?_);refine drewH ?_ hHeld;clear hHeld;rintro wd hb hHeld;refine startH 37 (by kernel_rfl) (fun hok=>?_);have HK3:Hid (Blk wd g 83 #[.string s,.int .i64 p,.slice A l.length c,.slice R m d]):=zh (HK2.out.below hb qlr2);have HB3:Hid (But (fun k=>k=g) w wd):=zh (HB2.out.then_ hb);have qlr3:g<wd.heap.size:=Nat.lt_of_lt_of_le qlr2 hb.size;clear hb;clear q0 q1;(iterate 14 (refine takeH (v:=?_) hok (by decide) (fun _ _ _ h=>h) (Or.inl ⟨by rfl,?_⟩) (by assumption) ?_;rotate_left;(intro W hSw;(try dsimp only at hSw);go_simp;first | done | rfl);try simp only [Act.put,zl1,zl2,zl3,zl4,zl5,zl6]));(iterate 20 (refine takeH (v:=?_) hok (by decide) (fun _ _ _ h=>h) (Or.inl ⟨by rfl,?_⟩) (by assumption) ?_;rotate_left;(intro W hSw;(try dsimp only at hSw);go_simp;first | done | rfl);try simp only [Act.put,zl1,zl2,zl3,zl4,zl5,zl6]));refine callH (by kernel_rfl) (fun K hK=>?_);go_simp
            go_at_call 144
            refine letter_calls.mono ?_;rintro e w1 ⟨rfl,hw⟩;subst w1;rw [hlet];refine hK.out _ _ hHeld (fun hHeld=>?_);clear hK K;(try simp only [Act.put,zl1,zl2,zl3,zl4,zl5,zl6]);(iterate 2 (refine takeH (v:=?_) hok (by decide) (fun _ _ _ h=>h) (Or.inl ⟨by rfl,?_⟩) (by assumption) ?_;rotate_left;(intro W hSw;(try dsimp only at hSw);go_simp;first | done | rfl);try simp only [Act.put,zl1,zl2,zl3,zl4,zl5,zl6]));refine doneH ?_;clear hok;have HNR:=zh (HOK.out (by rintro (h | h | ⟨y,hy,hz⟩);exact h1n h.2;omega;rw [HNX.out hq2,HX.out] at hy;cases hy;exact absurd (hlet.symm.trans hz) (by decide)));go_wp2_with fail;refine (add_calls (base:=base) (at_:=p) ⟨_,_,_,_,_,_,H.out.but HB3.out HK3.out (by omega)⟩ (by omega)).mono ?_;rintro e w4 ⟨rfl,hS,hb4⟩;have HS4:=zh hS;have HB4:=zh ((but_base HB3.out hlo hbw).trans hb4);clear hS hb4;go_wp2_with fail
            go_end0
            refine ⟨HB4.out,?_⟩;rw [HNR.out];refine ⟨rfl,?_⟩;rw [HEE.out,show ((at_:Int)+((p - at_:Nat):Int))=(p:Int) from by omega,HTX.out];exact HS4.out
        have f48:((c0.toNat:Int) == 48)=false:=u8_ne h48;have H48:Hid (¬ c0=48):=zh h48;by_cases h200:200<p - at_
        · rw [decide_eq_true h200] at hd200
          have hp200:200<tx.size:=of_decide_eq_true hd200;(have hpi200:(200:Int)<(tx.size:Int):=by omega);have hd200i:decide ((200:Int)<(tx.size:Int))=true:=decide_eq_true hpi200;refine wp_region_held_drew (S:=(fun w'=>w'.cell? ⟨g,0,none⟩=some (.string s)∧w'.cell? ⟨g,1,none⟩=some (.int .i64 p))) (by kernel_rfl) (by exact ⟨q0,q1⟩) (fun hHeld=>?_);refine drewH ?_ hHeld;clear hHeld;rintro wd hb hHeld;refine startH 37 (by kernel_rfl) (fun hok=>?_);have HK3:Hid (Blk wd g 83 #[.string s,.int .i64 p,.slice A l.length c,.slice R m d]):=zh (HK2.out.below hb qlr2);have HB3:Hid (But (fun k=>k=g) w wd):=zh (HB2.out.then_ hb);have qlr3:g<wd.heap.size:=Nat.lt_of_lt_of_le qlr2 hb.size;clear hb;clear q0 q1;(iterate 4 (refine takeH (v:=?_) hok (by decide) (fun _ _ _ h=>h) (Or.inl ⟨by rfl,?_⟩) (by assumption) ?_;rotate_left;(intro W hSw;(try dsimp only at hSw);go_simp;first | done | rfl);try simp only [Act.put,zl1,zl2,zl3,zl4,zl5,zl6]));(iterate 3 (refine takeH (v:=undef) hok (by decide) (fun _ _ _ h=>h) (Or.inr ⟨by rfl,rfl⟩) (by assumption) ?_;try simp only [Act.put,zl1,zl2,zl3,zl4,zl5,zl6]));(iterate 7 (refine takeH (v:=?_) hok (by decide) (fun _ _ _ h=>h) (Or.inl ⟨by rfl,?_⟩) (by assumption) ?_;rotate_left;(intro W hSw;(try dsimp only at hSw);go_simp;first | done | rfl);try simp only [Act.put,zl1,zl2,zl3,zl4,zl5,zl6]));iterate 22 (refine takeH (v:=undef) hok (by decide) (fun _ _ _ h=>h) (Or.inr ⟨by rfl,rfl⟩) (by assumption) ?_;try simp only [Act.put,zl1,zl2,zl3,zl4,zl5,zl6])
          (refine takeH (v:=?_) hok (by decide) (fun _ _ _ h=>h) (Or.inl ⟨by rfl,?_⟩) (by assumption) ?_;rotate_left;(intro W hSw;(try dsimp only at hSw);go_simp;first | done | rfl);try simp only [Act.put,zl1,zl2,zl3,zl4,zl5,zl6])
          refine doneH ?_;clear hok;go_wp2_with fail;refine bads_calls.mono ?_;rintro e w1 ⟨rfl,hw⟩;subst w1;go_wp2_with fail;have HNR:=HBAD.out (.inr (.inl h200));rw [HNR];exact ⟨rfl,but_base HB3.out hlo hbw,rfl⟩
        rw [decide_eq_false h200] at hd200;have hp200:¬ 200<tx.size:=of_decide_eq_false hd200;(have hpi200:¬ (200:Int)<(tx.size:Int):=by omega);have hd200i:decide ((200:Int)<(tx.size:Int))=false:=decide_eq_false hpi200;have hq2:=hp;have hdn:decide (p<s.size)=true:=decide_eq_true hq2;obtain ⟨x,hx⟩:∃ x,s[p]=x:=⟨_,rfl⟩;have HX:=zh hx;(have hqi:(p:Int)<(s.size:Int):=by omega);by_cases hlet:letterN x.toNat=true
        case pos=>
          refine wp_region_held_drew (S:=(fun w'=>w'.cell? ⟨g,0,none⟩=some (.string s)∧w'.cell? ⟨g,1,none⟩=some (.int .i64 p))) (by kernel_rfl) (by exact ⟨q0,q1⟩) (fun hHeld=>?_);refine drewH ?_ hHeld;clear hHeld;rintro wd hb hHeld;refine startH 37 (by kernel_rfl) (fun hok=>?_);have HK3:Hid (Blk wd g 83 #[.string s,.int .i64 p,.slice A l.length c,.slice R m d]):=zh (HK2.out.below hb qlr2);have HB3:Hid (But (fun k=>k=g) w wd):=zh (HB2.out.then_ hb);have qlr3:g<wd.heap.size:=Nat.lt_of_lt_of_le qlr2 hb.size;clear hb;clear q0 q1;(iterate 4 (refine takeH (v:=?_) hok (by decide) (fun _ _ _ h=>h) (Or.inl ⟨by rfl,?_⟩) (by assumption) ?_;rotate_left;(intro W hSw;(try dsimp only at hSw);go_simp;first | done | rfl);try simp only [Act.put,zl1,zl2,zl3,zl4,zl5,zl6]));(iterate 3 (refine takeH (v:=undef) hok (by decide) (fun _ _ _ h=>h) (Or.inr ⟨by rfl,rfl⟩) (by assumption) ?_;try simp only [Act.put,zl1,zl2,zl3,zl4,zl5,zl6]));(iterate 7 (refine takeH (v:=?_) hok (by decide) (fun _ _ _ h=>h) (Or.inl ⟨by rfl,?_⟩) (by assumption) ?_;rotate_left;(intro W hSw;(try dsimp only at hSw);go_simp;first | done | rfl);try simp only [Act.put,zl1,zl2,zl3,zl4,zl5,zl6]));(iterate 20 (refine takeH (v:=?_) hok (by decide) (fun _ _ _ h=>h) (Or.inl ⟨by rfl,?_⟩) (by assumption) ?_;rotate_left;(intro W hSw;(try dsimp only at hSw);go_simp;first | done | rfl);try simp only [Act.put,zl1,zl2,zl3,zl4,zl5,zl6]));refine callH (by kernel_rfl) (fun K hK=>?_);go_simp
          go_at_call 144
          refine letter_calls.mono ?_;rintro e w1 ⟨rfl,hw⟩;subst w1;rw [hlet];refine hK.out _ _ hHeld (fun hHeld=>?_);clear hK K;(try simp only [Act.put,zl1,zl2,zl3,zl4,zl5,zl6]);(iterate 2 (refine takeH (v:=?_) hok (by decide) (fun _ _ _ h=>h) (Or.inl ⟨by rfl,?_⟩) (by assumption) ?_;rotate_left;(intro W hSw;(try dsimp only at hSw);go_simp;first | done | rfl);try simp only [Act.put,zl1,zl2,zl3,zl4,zl5,zl6]));refine doneH ?_;clear hok;go_wp2_with fail;refine bads_calls.mono ?_;rintro e w1 ⟨rfl,hw⟩;subst w1;go_wp2_with fail;have HNR:=HBAD.out (.inr (.inr ⟨x,by rw [HNX.out hq2,HX.out];rfl,hlet⟩));rw [HNR];exact ⟨rfl,but_base HB3.out hlo hbw,rfl⟩
        case neg=>
          replace hlet:=Bool.eq_false_iff.2 hlet;refine wp_region_held_drew (S:=(fun w'=>w'.cell? ⟨g,0,none⟩=some (.string s)∧w'.cell? ⟨g,1,none⟩=some (.int .i64 p))) (by kernel_rfl) (by exact ⟨q0,q1⟩) (fun hHeld=>?_);refine drewH ?_ hHeld;clear hHeld;rintro wd hb hHeld;refine startH 37 (by kernel_rfl) (fun hok=>?_);have HK3:Hid (Blk wd g 83 #[.string s,.int .i64 p,.slice A l.length c,.slice R m d]):=zh (HK2.out.below hb qlr2);have HB3:Hid (But (fun k=>k=g) w wd):=zh (HB2.out.then_ hb);have qlr3:g<wd.heap.size:=Nat.lt_of_lt_of_le qlr2 hb.size;clear hb;clear q0 q1;(iterate 4 (refine takeH (v:=?_) hok (by decide) (fun _ _ _ h=>h) (Or.inl ⟨by rfl,?_⟩) (by assumption) ?_;rotate_left;(intro W hSw;(try dsimp only at hSw);go_simp;first | done | rfl);try simp only [Act.put,zl1,zl2,zl3,zl4,zl5,zl6]));(iterate 3 (refine takeH (v:=undef) hok (by decide) (fun _ _ _ h=>h) (Or.inr ⟨by rfl,rfl⟩) (by assumption) ?_;try simp only [Act.put,zl1,zl2,zl3,zl4,zl5,zl6]));(iterate 7 (refine takeH (v:=?_) hok (by decide) (fun _ _ _ h=>h) (Or.inl ⟨by rfl,?_⟩) (by assumption) ?_;rotate_left;(intro W hSw;(try dsimp only at hSw);go_simp;first | done | rfl);try simp only [Act.put,zl1,zl2,zl3,zl4,zl5,zl6]));(iterate 20 (refine takeH (v:=?_) hok (by decide) (fun _ _ _ h=>h) (Or.inl ⟨by rfl,?_⟩) (by assumption) ?_;rotate_left;(intro W hSw;(try dsimp only at hSw);go_simp;first | done | rfl);try simp only [Act.put,zl1,zl2,zl3,zl4,zl5,zl6]));refine callH (by kernel_rfl) (fun K hK=>?_);go_simp
          go_at_call 144
          refine letter_calls.mono ?_;rintro e w1 ⟨rfl,hw⟩;subst w1;rw [hlet];refine hK.out _ _ hHeld (fun hHeld=>?_);clear hK K;(try simp only [Act.put,zl1,zl2,zl3,zl4,zl5,zl6]);(iterate 2 (refine takeH (v:=?_) hok (by decide) (fun _ _ _ h=>h) (Or.inl ⟨by rfl,?_⟩) (by assumption) ?_;rotate_left;(intro W hSw;(try dsimp only at hSw);go_simp;first | done | rfl);try simp only [Act.put,zl1,zl2,zl3,zl4,zl5,zl6]));refine doneH ?_;clear hok;have HNR:=zh (HOK.out (by rintro (h | h | ⟨y,hy,hz⟩);exact H48.out (HC0.out.symm.trans h.1);exact h200 h;rw [HNX.out hq2,HX.out] at hy;cases hy;exact absurd (hlet.symm.trans hz) (by decide)));go_wp2_with fail;refine (add_calls (base:=base) (at_:=p) ⟨_,_,_,_,_,_,H.out.but HB3.out HK3.out (by omega)⟩ (by omega)).mono ?_;rintro e w4 ⟨rfl,hS,hb4⟩;have HS4:=zh hS;have HB4:=zh ((but_base HB3.out hlo hbw).trans hb4);clear hS hb4;go_wp2_with fail
          go_end0
          refine ⟨HB4.out,?_⟩;rw [HNR.out];refine ⟨rfl,?_⟩;rw [HEE.out,show ((at_:Int)+((p - at_:Nat):Int))=(p:Int) from by omega,HTX.out];exact HS4.out
end
section
variable {w w':World} {base g at_:Nat} {s:ByteArray} {l:List Tk}
theorem SSm.growR {A:Option Addr} {c:Nat} {R:Option Addr} {m d:Nat} {xs ys:List Value} {W w3:World} {v':Value} (h:SSm base w g s at_ l A c R m d xs) (hma:m+1≤at_) (hW:Below w.heap.size w W) (hown:w3.ownsRow base 90 2 v' (m+1) (xs ++ ys))
    (hg:W.grownBy w3 (Value.slice R m d).ownBlock):∃ B d',v' = .slice B (m+1) d'∧SSt base (w3.setCell ⟨g,3,none⟩ (.slice B (m+1) d')) g s at_ l∧Below base w (w3.setCell ⟨g,3,none⟩ (.slice B (m+1) d'))∧Blk w3 g 83 #[.string s,.int .i64 at_,.slice A l.length c,.slice R m d]:=by
  obtain ⟨B,c',rfl⟩:=own_form hown;have hgl:=h.blk.lt;have hz:=hW.size;have hB3:Blk w3 g 83 #[.string s,.int .i64 at_,.slice A l.length c,.slice R m d]:=(h.blk.below hW hgl).grown hg (fun e=>own_blk h.rem h.blk (by decide) e.symm)
  have hT3:w3.ownsRow base 36 4 (.slice A l.length c) l.length (flatT l):=(own_below h.tok hW).kept hg (by
    cases hA:(Value.slice A l.length c).ownBlock with
    | none=>exact .inl rfl
    | some k=>exact .inr fun e=>own_ne h.tok h.rem (by decide) hA e.symm)
  have hsB:Below base w w3:=(hW.mono (Nat.le_trans h.lo (Nat.le_of_lt hgl))).trans ⟨hg.os,hg.tape,hg.output,hg.size,fun b hb=>hg.block b (by have:=h.lo;omega) (fun e=>by
    have:=(h.rem.lt b e.symm).1
    omega)⟩
  refine ⟨B,c',rfl,⟨A,c,B,m+1,c',xs ++ ys,?_,?_,?_,hma,h.lo⟩,hsB.setCell h.lo _,hB3⟩
  · simpa using hB3.set_ 3 (.slice B (m+1) c')
  · exact own_same hT3 fun k hk=>Below.heap_setCell w3 ⟨g,3,none⟩ _ k (fun e=>own_blk hT3 hB3 (by decide) (by rw [hk,e]))
  · exact own_same hown fun k hk=>Below.heap_setCell w3 ⟨g,3,none⟩ _ k (fun e=>own_blk hown hB3 (by decide) (by rw [hk,e]))
end
set_option maxRecDepth 100000
set_option maxHeartbeats 4000000
section
variable {w w':World} {base g at_:Nat} {s:ByteArray} {l:List Tk}
def RemRes (base:Nat) (w:World) (g:Nat) (s:ByteArray) (at_:Nat) (l:List Tk) (r:List UInt8) (o:Option Nat) (e:Ending) (w':World):Prop:=
  Below base w w'∧match o with
  | none=>e = .panicked (badS at_)
  | some n=>e = .returned (.tuple #[])∧SSt base w' g s (at_+n) (if 0≤Lib.indexByte (r.take n) 10 then lineT at_ l else l)
theorem remark_calls (h:SSt base w g s at_ l) (hl:l.length≤100000) (hs:s.size≤65536) (hat:at_+2≤s.size) (h47:s.data.toList[at_]? = some 47) (hbw:base≤w.heap.size) {mm:Int} (hmx:w.cell? ⟨2,0,none⟩=some (.int .i64 mm)) :
    Calls Tryz.prog 109 #[.pointer (some ⟨g,0,none⟩)] w (RemRes base w g s at_ l (s.data.toList.drop at_) (remR (s.data.toList.drop at_))):=by
  obtain ⟨A,c,R,m,d,xs,hm⟩:=h;have H:=zh hm;have HMX:=zh hmx;have hlo:=hm.lo;have q0:=hm.blk.cell 0;have q1:=hm.blk.cell 1;simp at q0 q1;have qf:=hm.blk.frozen;have ql:=hm.blk.lt;(have hsi:(s.size:Int)≤65536:=by omega);(have hai:(at_:Int)≤(s.size:Int):=by omega);obtain ⟨rs,hrs⟩:∃ rs,s.extract at_ s.size=rs:=⟨_,rfl⟩;(have hrl:rs.data.toList=s.data.toList.drop at_:=by rw [← hrs];exact Lib.extract_to_end s at_);(have hrz:rs.size=s.size - at_:=by rw [← hrs,ByteArray.size_extract];omega);rw [← hrl];have HIB:Hid (∀ w,Calls Tryz.prog 147 #[.string rs,.int .u8 10] w fun e w'=>e = .returned (.int .i64 (Lib.indexByte rs.data.toList 10))∧w'=w):=zh fun w=>Tryz.strings_IndexByte rs 10 w;(have h1z:1<rs.size:=by omega);(have h1zi:(1:Int)<(rs.size:Int):=by omega);obtain ⟨c1,hc1⟩:∃ c1,rs[1]=c1:=⟨_,rfl⟩
  have HC1:Hid (rs.data.toList.getD 1 0=c1):=zh (by
    (have h2:1<rs.data.toList.length:=by rw [Array.length_toList];exact h1z);rw [List.getD_eq_getElem?_getD,List.getElem?_eq_getElem h2,Array.getElem_toList]
    exact hc1)
  have HRS:=zh hrs;have HRZ:=zh hrz;(have hrzi:(rs.size:Int)≤65536:=by omega);have H47:Hid (rs.data.toList[0]? = some 47):=zh (by rw [hrl,List.getElem?_drop];exact h47);clear hm hmx hrl hrz h47;go_enter Tryz.func109,Tryz.ntmps109;go_wp2_with fail;refine (HIB.out _).mono ?_;rintro e w1 ⟨rfl,hw⟩;subst w1;obtain ⟨ib,hib⟩:∃ ib,Lib.indexByte rs.data.toList 10=ib:=⟨_,rfl⟩;rw [hib];have HIB2:=zh hib;have hibg:-1≤ib:=by rw [← hib];exact Lib.indexByte_ge _ _
  have hibl:∀ k:Nat,ib=(k:Int)→k<rs.size:=fun k hk=>by
    have h2:=(List.getElem?_eq_some_iff.1 (Lib.indexByte_some (hib.trans hk)).1).1;rw [Array.length_toList] at h2;exact h2
  have hib0:∀ k:Nat,ib=(k:Int)→k≠0:=fun k hk h0=>by
    subst h0;have h2:=(Lib.indexByte_some (hib.trans hk)).1;rw [H47.out] at h2;exact absurd h2 (by decide)
  clear hib;by_cases h42:c1=42
  case pos=>
    subst h42;obtain ⟨r2,hr2⟩:∃ r2,rs.extract 2 rs.size=r2:=⟨_,rfl⟩;(have hr2l:r2.data.toList=rs.data.toList.drop 2:=by rw [← hr2];exact Lib.extract_to_end rs 2);(have hr2z:r2.size=rs.size - 2:=by rw [← hr2,ByteArray.size_extract];omega);have HIX:Hid (Calls Tryz.prog 148 #[.string r2,.string ⟨#[42,47]⟩] w fun e w'=>e = .returned (.int .i64 (Lib.index (rs.data.toList.drop 2) [42,47]))∧w'=w):=zh (by have h9:=Tryz.strings_Index r2 ⟨#[42,47]⟩ mm w (by omega) HMX.out;rw [hr2l] at h9;exact h9);obtain ⟨ix,hix⟩:∃ ix,Lib.index (rs.data.toList.drop 2) [42,47]=ix:=⟨_,rfl⟩;rw [hix] at HIX;have hixg:-1≤ix:=by rw [← hix];exact Lib.index_ge _ _
    have hixr:0≤ix→ix+4≤(rs.size:Int):=fun h=>by
      have h3:=Lib.index_room (rs.data.toList.drop 2) [42,47] (by rw [hix];exact h);rw [hix,List.length_drop,Array.length_toList] at h3;have h4:rs.data.size=rs.size:=rfl;simp at h3;omega
    have HIXE:=zh hix;(have h2i:(2:Int)≤(rs.size:Int):=by omega);clear hr2l hr2z hix hibl hibg hib0;go_wp2_with fail;refine HIX.out.mono ?_;rintro e w1 ⟨rfl,hw⟩;subst w1;by_cases hx0:ix<0
    case pos=>
      have HREM:Hid (remR rs.data.toList=none):=zh (by unfold remR;rw [if_pos HC1.out,HIXE.out,if_pos hx0]);go_wp2_with fail;refine bads_calls.mono ?_;rintro e w1 ⟨rfl,hw⟩;subst w1;go_wp2_with fail;refine ⟨rfl,Below.refl _ _,?_⟩;rw [HREM.out]
    case neg=>
      obtain ⟨k,hk⟩:∃ k:Nat,ix=(k:Int):=⟨ix.toNat,by omega⟩;subst hk;have hk4:=hixr (by omega);obtain ⟨n,hn⟩:∃ n:Nat,n=k+4:=⟨_,rfl⟩;(have hnc:(k:Int)+4=(n:Int):=by omega);have HNC:Hid (n=k+4):=zh hn;clear hn hixr hixg;have HREM:Hid (remR rs.data.toList=some n):=zh (by unfold remR;rw [if_pos HC1.out,HIXE.out,if_neg hx0,HNC.out];rfl);(have hni:(n:Int)≤(rs.size:Int):=by omega);(have hni0:(0:Int)≤(n:Int):=by omega);obtain ⟨tk,htk⟩:∃ tk,rs.extract 0 n=tk:=⟨_,rfl⟩;(have htl:tk.data.toList=rs.data.toList.take n:=by rw [← htk,Lib.extract_data];simp);(have HIT:Hid (∀ w,Calls Tryz.prog 147 #[.string tk,.int .u8 10] w fun e w'=>e = .returned (.int .i64 (Lib.indexByte (rs.data.toList.take n) 10))∧w'=w):=zh fun w=>by have h9:=Tryz.strings_IndexByte tk 10 w;rw [htl] at h9;exact h9);have HK1:Hid (Blk (w.setCell ⟨g,1,none⟩ (.int .i64 (at_+n))) g 83 #[.string s,.int .i64 ((at_+n:Nat):Int),.slice A l.length c,.slice R m d]):=zh (by simpa using H.out.blk.set_ 1 (.int .i64 (at_+n)));have HB1:Hid (But (fun k=>k=g) w (w.setCell ⟨g,1,none⟩ (.int .i64 (at_+n)))):=zh ((But.refl (fun k=>k=g) w).set_ (p:=⟨g,1,none⟩) (.inr rfl) _);have HS1:=zh (H.out.but HB1.out HK1.out (by omega));obtain ⟨w1,hw1⟩:∃ w1,w.setCell ⟨g,1,none⟩ (.int .i64 (at_+n))=w1:=⟨_,rfl⟩;rw [hw1] at HK1 HB1 HS1;clear htl;go_wp2_with fail;clear q0 q1;have q1:=HK1.out.cell 1;have q3:=HK1.out.cell 3;simp at q1 q3;have qf1:=HK1.out.frozen;have ql1:=HK1.out.lt;obtain ⟨i0,hi0,iz0,iz1,iz2⟩:=info_parts info_span
      go_region_law
        (first
          | (refine step_append_row _ rfl _ _ 57 rfl base 90 i0 _ 2 16 Tryz.underlying57 hi0 iz0 iz1 iz2 rfl (by omega) (.slice R m d) m xs (by simp [Act.eval]) (own_below HS1.out.rem (below_al _ _).drew) (fun b=>b=w1.heap.size) (.slice (some ⟨w1.heap.size,0,none⟩) 1 1) 1 [.int .i64 at_,.int .i64 (at_+n)] (by simp [Act.eval]) (((Blk.new w1 _ _).row (n:=1) rfl (by unfold maxLen;omega) rfl)) (by simp [Value.oneCell']) (by have h9:=H.out.mle;unfold maxLen;omega) (by have h9:=H.out.mle;omega) (by have h9:=H.out.lo;simp;omega) ?_
             intro v' w3 hown hg hnil hat;obtain ⟨B,c',rfl,hS,hBl,hB3⟩:=HS1.out.growR (by have h9:=H.out.mle;omega) (below_al _ _).drew hown hg;have HS:=zh hS;have HBL:=zh hBl;have s3:=hB3.cell 3;simp at s3;have sf:=hB3.frozen;have sl:=hB3.lt
             clear hown hg hnil hat hS hBl hB3))
      all_goals
        go_wp2_with fail;refine (HIT.out _).mono ?_;rintro e w4 ⟨rfl,hw4⟩;subst w4;by_cases hnl:0≤Lib.indexByte (rs.data.toList.take n) 10
        · go_wp2_with fail
          refine (line_calls (base:=base) (at_:=at_+n) HS.out (by omega) (by have h9:=HB1.out.size;have h8:=HBL.out.size;omega)).mono ?_;rintro e w5 ⟨rfl,hS5,hb5⟩;have HS5:=zh hS5;have HB5:=zh ((but_base HB1.out hlo hbw).trans (HBL.out.trans hb5));clear hS5 hb5;go_wp2_with fail
          go_end0
          refine ⟨HB5.out,?_⟩;rw [HREM.out];refine ⟨rfl,?_⟩;rw [if_pos hnl];exact HS5.out
        · go_wp2_with fail
          go_end0
          refine ⟨(but_base HB1.out hlo hbw).trans HBL.out,?_⟩;rw [HREM.out];refine ⟨rfl,?_⟩;rw [if_neg (by omega)];exact HS.out
  case neg=>
    have f42:((c1.toNat:Int) == 42)=false:=u8_ne h42;by_cases hi0:ib<0
    case pos=>
      obtain ⟨n,hn⟩:∃ n:Nat,n=rs.size:=⟨_,rfl⟩;have HNC:Hid (n=rs.size):=zh hn;(have hnc:(rs.size:Int)=(n:Int):=by omega);clear hn hibl hib0;have HREM:Hid (remR rs.data.toList=some n):=zh (by unfold remR;rw [if_neg (by rw [HC1.out];exact h42),HIB2.out,if_pos hi0,Array.length_toList,HNC.out];rfl);(have hni:(n:Int)≤(rs.size:Int):=by omega);(have hni0:(0:Int)≤(n:Int):=by omega);obtain ⟨tk,htk⟩:∃ tk,rs.extract 0 n=tk:=⟨_,rfl⟩;(have htl:tk.data.toList=rs.data.toList.take n:=by rw [← htk,Lib.extract_data];simp);(have HIT:Hid (∀ w,Calls Tryz.prog 147 #[.string tk,.int .u8 10] w fun e w'=>e = .returned (.int .i64 (Lib.indexByte (rs.data.toList.take n) 10))∧w'=w):=zh fun w=>by have h9:=Tryz.strings_IndexByte tk 10 w;rw [htl] at h9;exact h9);have HK1:Hid (Blk (w.setCell ⟨g,1,none⟩ (.int .i64 (at_+n))) g 83 #[.string s,.int .i64 ((at_+n:Nat):Int),.slice A l.length c,.slice R m d]):=zh (by simpa using H.out.blk.set_ 1 (.int .i64 (at_+n)));have HB1:Hid (But (fun k=>k=g) w (w.setCell ⟨g,1,none⟩ (.int .i64 (at_+n)))):=zh ((But.refl (fun k=>k=g) w).set_ (p:=⟨g,1,none⟩) (.inr rfl) _);have HS1:=zh (H.out.but HB1.out HK1.out (by omega));obtain ⟨w1,hw1⟩:∃ w1,w.setCell ⟨g,1,none⟩ (.int .i64 (at_+n))=w1:=⟨_,rfl⟩;rw [hw1] at HK1 HB1 HS1;clear htl;go_wp2_with fail;clear q0 q1;have q1:=HK1.out.cell 1;have q3:=HK1.out.cell 3;simp at q1 q3;have qf1:=HK1.out.frozen;have ql1:=HK1.out.lt;obtain ⟨i0,hi0,iz0,iz1,iz2⟩:=info_parts info_span
      go_region_law
        (first
          | (refine step_append_row _ rfl _ _ 57 rfl base 90 i0 _ 2 16 Tryz.underlying57 hi0 iz0 iz1 iz2 rfl (by omega) (.slice R m d) m xs (by simp [Act.eval]) (own_below HS1.out.rem (below_al _ _).drew) (fun b=>b=w1.heap.size) (.slice (some ⟨w1.heap.size,0,none⟩) 1 1) 1 [.int .i64 at_,.int .i64 (at_+n)] (by simp [Act.eval]) (((Blk.new w1 _ _).row (n:=1) rfl (by unfold maxLen;omega) rfl)) (by simp [Value.oneCell']) (by have h9:=H.out.mle;unfold maxLen;omega) (by have h9:=H.out.mle;omega) (by have h9:=H.out.lo;simp;omega) ?_
             intro v' w3 hown hg hnil hat;obtain ⟨B,c',rfl,hS,hBl,hB3⟩:=HS1.out.growR (by have h9:=H.out.mle;omega) (below_al _ _).drew hown hg;have HS:=zh hS;have HBL:=zh hBl;have s3:=hB3.cell 3;simp at s3;have sf:=hB3.frozen;have sl:=hB3.lt
             clear hown hg hnil hat hS hBl hB3))
      all_goals
        go_wp2_with fail;refine (HIT.out _).mono ?_;rintro e w4 ⟨rfl,hw4⟩;subst w4;by_cases hnl:0≤Lib.indexByte (rs.data.toList.take n) 10
        · go_wp2_with fail
          refine (line_calls (base:=base) (at_:=at_+n) HS.out (by omega) (by have h9:=HB1.out.size;have h8:=HBL.out.size;omega)).mono ?_;rintro e w5 ⟨rfl,hS5,hb5⟩;have HS5:=zh hS5;have HB5:=zh ((but_base HB1.out hlo hbw).trans (HBL.out.trans hb5));clear hS5 hb5;go_wp2_with fail
          go_end0
          refine ⟨HB5.out,?_⟩;rw [HREM.out];refine ⟨rfl,?_⟩;rw [if_pos hnl];exact HS5.out
        · go_wp2_with fail
          go_end0
          refine ⟨(but_base HB1.out hlo hbw).trans HBL.out,?_⟩;rw [HREM.out];refine ⟨rfl,?_⟩;rw [if_neg (by omega)];exact HS.out
    case neg=>
      obtain ⟨n,hn⟩:∃ n:Nat,ib=(n:Int):=⟨ib.toNat,by omega⟩;have hnb:=hibl n hn;have hn1:n≠0:=hib0 n hn;subst hn;clear hibl hib0;have HREM:Hid (remR rs.data.toList=some n):=zh (by unfold remR;rw [if_neg (by rw [HC1.out];exact h42),HIB2.out,if_neg hi0];rfl);(have hni:(n:Int)≤(rs.size:Int):=by omega);(have hni0:(0:Int)≤(n:Int):=by omega);obtain ⟨tk,htk⟩:∃ tk,rs.extract 0 n=tk:=⟨_,rfl⟩;(have htl:tk.data.toList=rs.data.toList.take n:=by rw [← htk,Lib.extract_data];simp);(have HIT:Hid (∀ w,Calls Tryz.prog 147 #[.string tk,.int .u8 10] w fun e w'=>e = .returned (.int .i64 (Lib.indexByte (rs.data.toList.take n) 10))∧w'=w):=zh fun w=>by have h9:=Tryz.strings_IndexByte tk 10 w;rw [htl] at h9;exact h9);have HK1:Hid (Blk (w.setCell ⟨g,1,none⟩ (.int .i64 (at_+n))) g 83 #[.string s,.int .i64 ((at_+n:Nat):Int),.slice A l.length c,.slice R m d]):=zh (by simpa using H.out.blk.set_ 1 (.int .i64 (at_+n)));have HB1:Hid (But (fun k=>k=g) w (w.setCell ⟨g,1,none⟩ (.int .i64 (at_+n)))):=zh ((But.refl (fun k=>k=g) w).set_ (p:=⟨g,1,none⟩) (.inr rfl) _);have HS1:=zh (H.out.but HB1.out HK1.out (by omega));obtain ⟨w1,hw1⟩:∃ w1,w.setCell ⟨g,1,none⟩ (.int .i64 (at_+n))=w1:=⟨_,rfl⟩;rw [hw1] at HK1 HB1 HS1;clear htl;go_wp2_with fail;clear q0 q1;have q1:=HK1.out.cell 1;have q3:=HK1.out.cell 3;simp at q1 q3;have qf1:=HK1.out.frozen;have ql1:=HK1.out.lt;obtain ⟨i0,hi0,iz0,iz1,iz2⟩:=info_parts info_span
      go_region_law
        (first
          | (refine step_append_row _ rfl _ _ 57 rfl base 90 i0 _ 2 16 Tryz.underlying57 hi0 iz0 iz1 iz2 rfl (by omega) (.slice R m d) m xs (by simp [Act.eval]) (own_below HS1.out.rem (below_al _ _).drew) (fun b=>b=w1.heap.size) (.slice (some ⟨w1.heap.size,0,none⟩) 1 1) 1 [.int .i64 at_,.int .i64 (at_+n)] (by simp [Act.eval]) (((Blk.new w1 _ _).row (n:=1) rfl (by unfold maxLen;omega) rfl)) (by simp [Value.oneCell']) (by have h9:=H.out.mle;unfold maxLen;omega) (by have h9:=H.out.mle;omega) (by have h9:=H.out.lo;simp;omega) ?_
             intro v' w3 hown hg hnil hat;obtain ⟨B,c',rfl,hS,hBl,hB3⟩:=HS1.out.growR (by have h9:=H.out.mle;omega) (below_al _ _).drew hown hg;have HS:=zh hS;have HBL:=zh hBl;have s3:=hB3.cell 3;simp at s3;have sf:=hB3.frozen;have sl:=hB3.lt
             clear hown hg hnil hat hS hBl hB3))
      all_goals
        go_wp2_with fail;refine (HIT.out _).mono ?_;rintro e w4 ⟨rfl,hw4⟩;subst w4;by_cases hnl:0≤Lib.indexByte (rs.data.toList.take n) 10
        · go_wp2_with fail
          refine (line_calls (base:=base) (at_:=at_+n) HS.out (by omega) (by have h9:=HB1.out.size;have h8:=HBL.out.size;omega)).mono ?_;rintro e w5 ⟨rfl,hS5,hb5⟩;have HS5:=zh hS5;have HB5:=zh ((but_base HB1.out hlo hbw).trans (HBL.out.trans hb5));clear hS5 hb5;go_wp2_with fail
          go_end0
          refine ⟨HB5.out,?_⟩;rw [HREM.out];refine ⟨rfl,?_⟩;rw [if_pos hnl];exact HS5.out
        · go_wp2_with fail
          go_end0
          refine ⟨(but_base HB1.out hlo hbw).trans HBL.out,?_⟩;rw [HREM.out];refine ⟨rfl,?_⟩;rw [if_neg (by omega)];exact HS.out
end
set_option maxRecDepth 100000
set_option maxHeartbeats 8000000
section
variable {w w':World} {base g at_:Nat} {s:ByteArray} {l:List Tk}
theorem SSt.below (h:SSt base w g s at_ l) (hb:Below w.heap.size w w'):SSt base w' g s at_ l:=by
  obtain ⟨A,c,R,m,d,xs,hm⟩:=h;exact ⟨A,c,R,m,d,xs,hm.blk.below hb hm.blk.lt,own_below hm.tok hb,own_below hm.rem hb,hm.mle,hm.lo⟩
theorem SSt.to_ {p:Nat} (h:SSt base w g s at_ l) (hp:at_≤p):SSt base (w.setCell ⟨g,1,none⟩ (.int .i64 p)) g s p l:=by
  obtain ⟨A,c,R,m,d,xs,hm⟩:=h;exact ⟨A,c,R,m,d,xs,hm.but ((But.refl (fun k=>k=g) w).set_ (p:=⟨g,1,none⟩) (.inr rfl) _) (by simpa using hm.blk.set_ 1 (.int .i64 p)) hp⟩
theorem SSt.cells (h:SSt base w g s at_ l):w.cell? ⟨g,0,none⟩=some (.string s)∧w.cell? ⟨g,1,none⟩=some (.int .i64 at_)∧(∀ i,w.frozen? ⟨g,i,none⟩=false)∧g<w.heap.size∧base≤g:=by
  obtain ⟨A,c,R,m,d,xs,hm⟩:=h;have q0:=hm.blk.cell 0;have q1:=hm.blk.cell 1;simp at q0 q1;exact ⟨q0,q1,hm.blk.frozen,hm.blk.lt,hm.lo⟩
theorem hp_iff {x y:UInt8} {t:List UInt8} (h0:y≠0):Lib.hasPrefix (x :: t) [47,y]=true↔x=47∧t.headD 0=y:=by
  cases t with
  | nil=>simp [Lib.hasPrefix,List.isPrefixOf,h0];intro _ e;exact h0 e.symm
  | cons z t=>
    simp only [Lib.hasPrefix,List.isPrefixOf,Bool.and_eq_true,beq_iff_eq,and_true,List.headD_cons];exact ⟨fun h=>⟨h.1.symm,h.2.symm⟩,fun h=>⟨h.1.symm,h.2.symm⟩⟩
theorem bs_take {l:List UInt8} {n:Nat}:(bs l).extract 0 n=bs (l.take n):=by
  apply ByteArray.ext;apply Array.ext';rw [Lib.extract_data,Nat.sub_zero,List.drop_zero];rfl
theorem remR_bd {r:List UInt8} {k:Nat} (h:remR r=some k) (h0:∃ t,r=47 :: t):1≤k∧k≤r.length:=by
  obtain ⟨t,rfl⟩:=h0;unfold remR at h;split at h
  · split at h
    · cases h
    · rename_i h1
      have h2:=Lib.index_room ((47 :: t).drop 2) [42,47] (by omega);rw [List.length_drop] at h2;cases h;simp only [List.length_cons,List.length_nil] at h2 ⊢;omega
  · split at h
    · cases h
      simp
    · rename_i h1
      obtain ⟨m,hm⟩:∃ m:Nat,Lib.indexByte (47 :: t) 10=m:=⟨_,(Int.toNat_of_nonneg (by omega)).symm⟩;have h2:=(Lib.indexByte_some hm).1;have h3:=(List.getElem?_eq_some_iff.1 h2).1;rw [hm] at h;cases h;refine ⟨?_,by simp at h3 ⊢;omega⟩;rcases Nat.eq_zero_or_pos m with h4 | h4
      · subst h4
        simp at h2
      · simp;omega
theorem numR_bd {x:UInt8} {t:List UInt8} {k:Nat} (h:numR (x :: t)=some k) (hd:digitN x.toNat=true):1≤k∧k≤(x :: t).length:=by
  unfold numR at h;split at h
  · cases h
  · cases h
    refine ⟨?_,tw_le⟩;rw [List.takeWhile_cons,if_pos (show digU x=true from hd)];simp
theorem textR_bd {fr:Nat}:∀ (r:List UInt8) (p:Nat) (acc:List UInt8) {q:Nat} {tx:List UInt8},textR fr r p acc = .ok (q,tx)→p<q∧q≤p+r.length
  | [],p,acc,q,tx,h=>by simp [textR] at h
  | c :: t,p,acc,q,tx,h=>by
    unfold textR at h;split at h
    · cases h
    split at h
    · cases h
      simp only [List.length_cons];omega
    split at h
    · cases t with
      | nil=>cases h
      | cons e t'=>
        simp only at h;cases he:escU e with
        | none=>rw [he] at h;cases h
        | some z=>
          rw [he] at h;have:=textR_bd t' (p+2) _ h;simp only [List.length_cons];omega
    · have:=textR_bd t (p+1) _ h
      simp only [List.length_cons];omega
theorem signL_le {s:ByteArray} (h:0<s.size):signL s≤s.size:=by
  unfold signL;split
  · rename_i h1
    have h2:=List.IsPrefix.length_le (List.isPrefixOf_iff_prefix.1 h1);rw [Array.length_toList] at h2;exact h2
  · split
    · rename_i h1
      have h2:=memB_true h1
      have h3:(s.extract 0 2).size=2:=by
        simp only [twosL,List.mem_cons,List.not_mem_nil,or_false] at h2;rcases h2 with h2 | h2 | h2 | h2 | h2 | h2 | h2 | h2 | h2 | h2 | h2 | h2 | h2 | h2 | h2 <;> rw [h2] <;> rfl
      rw [ByteArray.size_extract] at h3;omega
    · split <;> omega
theorem line_le (p:Int) (l:List Tk):(lineT p l).length≤l.length+1:=by
  unfold lineT;split
  · omega
  · split <;> simp
def ReadRes (base:Nat) (w:World) (g:Nat) (s:ByteArray) (r:Except Int (List Tk)) (e:Ending) (w':World):Prop:=
  Below base w w'∧match r with
  | .error p=>e = .panicked (badS p)
  | .ok l=>e = .returned (.tuple #[])∧∃ q,SSt base w' g s q l
theorem scan_calls (h:SSt base w g s 0 []) (hs:s.size≤65536) (hbw:base≤w.heap.size) (h2b:2<base) {mm:Int} (hmx:w.cell? ⟨2,0,none⟩=some (.int .i64 mm)) :
    Calls Tryz.prog 83 #[.pointer (some ⟨g,0,none⟩)] w (ReadRes base w g s (scanL (s.size+1) s.data.toList 0 [])):=by
  obtain ⟨r,hr⟩:∃ r,scanL (s.size+1) s.data.toList 0 []=r:=⟨_,rfl⟩;rw [hr];have HR:=zh hr;have H:=zh h;have HMX:=zh hmx;(have hsi:(s.size:Int)≤65536:=by omega);(have hlen:s.data.toList.length=s.size:=by rw [Array.length_toList];rfl);clear h hr hmx;go_enter Tryz.func83,Tryz.ntmps83;go_wp2_with fail
  (try go_step3)
  go_wp2_with fail
  (try go_step3)
  go_wp2_with fail
  go_loopg [] (s.size+1) (fun f wr=>∃ (p:Nat) (l:List Tk),s.size+1≤f+p∧p≤s.size∧l.length≤p∧Hid (SSt base wr g s p l)∧Hid (Below base w wr)∧Hid (scanL f (s.data.toList.drop p) p l=r))
  case atStart=>exact ⟨0,[],Nat.le_refl _,Nat.zero_le _,Nat.le_refl _,H,zh (Below.refl _ _),HR⟩
  case round=>
    obtain ⟨p,l,hfp,hps,hlp,HS,HB,HT⟩:=hrel;(try rename World=>wr);obtain ⟨q0,q1,qf,ql,hgb⟩:=HS.out.cells;cases gk with
    | zero=>exact absurd hfp (by omega)
    | succ f=>
      (have hpi:(p:Int)≤(s.size:Int):=by omega);go_wp2_with fail;refine wp_region_held_drew (S:=(fun w'=>w'.cell? ⟨g,0,none⟩=some (.string s)∧w'.cell? ⟨g,1,none⟩=some (.int .i64 p))) (by kernel_rfl) (by exact ⟨q0,q1⟩) (fun hHeld=>?_);refine drewH ?_ hHeld;clear hHeld;rintro wa hb hHeld;refine startH 10 (by kernel_rfl) (fun hok=>?_);have HS1:Hid (SSt base wa g s p l):=zh (HS.out.below hb);have HB1:Hid (Below base w wa):=zh (HB.out.trans (hb.mono (by have h9:=HB.out.size;omega)));clear hb q0 q1 qf ql;(iterate 10 (refine takeH (v:=?_) hok (by decide) (fun _ _ _ h=>h) (Or.inl ⟨by rfl,?_⟩) (by assumption) ?_;rotate_left;(intro W hSw;(try dsimp only at hSw);go_simp;first | done | rfl);try simp only [Act.put,zl1,zl2,zl3,zl4,zl5,zl6]));refine doneH ?_;clear hok;obtain ⟨rs,hrs⟩:∃ rs,s.extract p s.size=rs:=⟨_,rfl⟩;(have hrb:rs=bs (s.data.toList.drop p):=by rw [← hrs];exact ext_end);(have hrz:rs.size=s.size - p:=by rw [← hrs,ByteArray.size_extract];omega);have HRZ:=zh hrz;have HRB:=zh hrb;clear hrz hrb;by_cases hp:p<s.size
      case neg=>
        rw [hrs];obtain rfl:p=s.size:=by omega
        obtain rfl:r = .ok (lineT s.size l ++ [⟨7,s.size,s.size,⟨#[]⟩⟩]):=by
          have h1:=HT.out;rw [List.drop_eq_nil_of_le (by omega)] at h1;exact h1.symm
        clear HT HR
        obtain rfl:rs=⟨#[]⟩:=by
          have h1:=HRB.out;rw [List.drop_eq_nil_of_le (by omega)] at h1;exact h1
        clear hrs HRB HRZ;obtain ⟨q0,q1,qf,ql,-⟩:=HS1.out.cells;go_wp2_with fail;refine (line_calls (base:=base) HS1.out (by omega) (by have h9:=HB1.out.size;omega)).mono ?_;rintro e w4 ⟨rfl,hS4,hb4⟩;have HS4:=zh hS4;have HB4:=zh (HB1.out.trans hb4);clear hS4 hb4 q0 q1 qf ql;obtain ⟨q0,q1,qf,ql,-⟩:=HS4.out.cells;have hll:=line_le (s.size:Int) l;go_wp2_with fail;refine (add_calls (base:=base) HS4.out (by omega)).mono ?_;rintro e w5 ⟨rfl,hS5,hb5⟩;have HS5:=zh hS5;have HB5:=zh (HB4.out.trans hb5);clear hS5 hb5;go_wp2_with fail
        go_end0
        exact ⟨HB5.out,rfl,_,HS5.out⟩
      case pos=>
        obtain ⟨x,hx⟩:∃ x,s[p]=x:=⟨_,rfl⟩;(have hlt:(p:Int)<(s.size:Int):=by omega);obtain ⟨t,ht⟩:∃ t,s.data.toList.drop (p+1)=t:=⟨_,rfl⟩
        have hdrop:s.data.toList.drop p=x :: t:=by
          rw [List.drop_eq_getElem_cons (by omega),Array.getElem_toList,ht];exact congrArg (· :: t) hx
        have HX:=zh hx;have HDR:=zh hdrop;have HTD:=zh ht;rw [hdrop] at HT HRB;have hrz:=HRZ.out;(have h0z:0<rs.size:=by omega);(have h0zi:0<(rs.size:Int):=by omega);(have hrzi:(rs.size:Int)≤65536:=by omega);(have hrl:rs.data.toList=x :: t:=by rw [HRB.out];rfl);have HRL:=zh hrl
        have hr0:rs[0]=x:=by
          (have h1:rs.data.toList[0]? = some x:=by rw [hrl];rfl);rw [List.getElem?_eq_getElem (by rw [Array.length_toList];exact h0z),Array.getElem_toList] at h1;exact Option.some.inj h1
        (have hne:rs.toList.isEmpty=false:=by rw [Lib.toList_data,hrl];rfl);have hne2:(rs.toList == [])=false:=by rw [Lib.toList_data,hrl];rfl
        have htl:t.length+1+p=s.size:=by
          (have h1:rs.size=t.length+1:=by have h1:=congrArg List.length hrl;rw [Array.length_toList] at h1;exact h1);omega
        have HDK:Hid (∀ k,(x :: t).drop k=s.data.toList.drop (p+k)):=zh (fun k=>by rw [← hdrop,List.drop_drop]);(have hrs1:rs.size=t.length+1:=by omega);(have HRS1:rs.size≤t.length+1:=by omega);obtain ⟨n,hn⟩:∃ n,nameL (x :: t)=n:=⟨_,rfl⟩;(have hnle:n≤rs.size:=by have h1:=nameL_le (l:=x :: t);rw [hn] at h1;simp at h1;omega);(have HNM:Hid (∀ w,Calls Tryz.prog 106 #[.string rs] w fun e w'=>e = .returned (.int .i64 n)∧w'=w):=zh fun w=>by have h9:=name_calls (s:=rs) (w:=w) (by omega);rw [hrl,hn] at h9;exact h9);have HN:=zh hn;(have hni:(n:Int)≤(rs.size:Int):=by omega);rw [hrs];clear hrs hx ht hdrop hrl hn hrz hrs1;obtain ⟨q0,q1,qf,ql,-⟩:=HS1.out.cells;go_wp2_with fail;refine wp_region_held_drew (S:=(fun w'=>w'.cell? ⟨g,0,none⟩=some (.string s)∧w'.cell? ⟨g,1,none⟩=some (.int .i64 p))) (by kernel_rfl) (by exact ⟨q0,q1⟩) (fun hHeld=>?_);refine drewH ?_ hHeld;clear hHeld;rintro wb hb hHeld;refine startH 8 (by kernel_rfl) (fun hok=>?_);have HS2:Hid (SSt base wb g s p l):=zh (HS1.out.below hb);have HB2:Hid (Below base w wb):=zh (HB1.out.trans (hb.mono (by have h9:=HB1.out.size;omega)));clear hb q0 q1 qf ql
        skip
        (iterate 5 (refine takeH (v:=?_) hok (by decide) (fun _ _ _ h=>h) (Or.inl ⟨by rfl,?_⟩) (by assumption) ?_;rotate_left;(intro W hSw;(try dsimp only at hSw);go_simp;first | done | rfl);try simp only [Act.put,zl1,zl2,zl3,zl4,zl5,zl6]));refine callH (by kernel_rfl) (fun K hK=>?_);go_simp
        go_at_call 106
        refine (HNM.out _).mono ?_;rintro e w1 ⟨rfl,hw⟩;subst w1;refine hK.out _ _ hHeld (fun hHeld=>?_);clear hK K;(try simp only [Act.put,zl1,zl2,zl3,zl4,zl5,zl6]);(iterate 2 (refine takeH (v:=?_) hok (by decide) (fun _ _ _ h=>h) (Or.inl ⟨by rfl,?_⟩) (by assumption) ?_;rotate_left;(intro W hSw;(try dsimp only at hSw);go_simp;first | done | rfl);try simp only [Act.put,zl1,zl2,zl3,zl4,zl5,zl6]));refine doneH ?_;clear hok;clear hHeld hne hne2;obtain ⟨q0,q1,qf,ql,-⟩:=HS2.out.cells;by_cases h10:x=10
        case pos=>
          subst h10;have HTX:Hid (scanL f t (p+1) (lineT p l)=r):=zh (by have h1:=HT.out;unfold scanL at h1;rw [if_pos rfl] at h1;exact h1);clear HT HR;go_wp2_with fail;refine (line_calls (base:=base) HS2.out (by omega) (by have h9:=HB2.out.size;omega)).mono ?_;rintro e w4 ⟨rfl,hS4,hb4⟩;have HS4:=zh hS4;have HB4:=zh (HB2.out.trans hb4);clear hS4 hb4 q0 q1 qf ql;obtain ⟨q0,q1,qf,ql,-⟩:=HS4.out.cells;have hll:=line_le (p:Int) l;(have hp1:(p:Int)+1≤(s.size:Int):=by omega);go_wp2_with fail;have HS5:Hid (SSt base (w4.setCell ⟨g,1,none⟩ (.int .i64 (p+1))) g s (p+1) (lineT p l)):=zh (by have h9:=HS4.out.to_ (p:=p+1) (by omega);simpa using h9);have HB5:Hid (Below base w (w4.setCell ⟨g,1,none⟩ (.int .i64 (p+1)))):=zh (HB4.out.setCell hgb _)
          go_roundg f
          case measure=>omega
          case rel=>exact ⟨p+1,lineT p l,by omega,by omega,by omega,HS5,HB5,zh (by rw [HTD.out];exact HTX.out)⟩
        case neg=>
        have f10:((x.toNat:Int) == 10)=false:=u8_ne h10;by_cases hsp:x=32∨x=9∨x=13
        case pos=>
          have HTX:Hid (scanL f t (p+1) l=r):=zh (by have h1:=HT.out;unfold scanL at h1;rw [if_neg h10,if_pos hsp] at h1;exact h1);clear HT HR;(have hp1:(p:Int)+1≤(s.size:Int):=by omega);have HS5:Hid (SSt base (wb.setCell ⟨g,1,none⟩ (.int .i64 (p+1))) g s (p+1) l):=zh (by have h9:=HS2.out.to_ (p:=p+1) (by omega);simpa using h9);have HB5:Hid (Below base w (wb.setCell ⟨g,1,none⟩ (.int .i64 (p+1)))):=zh (HB2.out.setCell hgb _);rcases hsp with rfl | rfl | rfl
          all_goals
            go_wp2_with fail
            go_roundg f
            case measure=>omega
            case rel=>exact ⟨p+1,l,by omega,by omega,by omega,HS5,HB5,zh (by rw [HTD.out];exact HTX.out)⟩
        case neg=>
        have f32:((x.toNat:Int) == 32)=false:=u8_ne fun e=>hsp (.inl e);have f9:((x.toNat:Int) == 9)=false:=u8_ne fun e=>hsp (.inr (.inl e));have f13:((x.toNat:Int) == 13)=false:=u8_ne fun e=>hsp (.inr (.inr e));(have HH1:Hid (∀ w,Calls Tryz.prog 108 #[.string rs,.string ⟨#[47,47]⟩] w fun e w'=>e = .returned (.bool (Lib.hasPrefix (x :: t) [47,47]))∧w'=w):=zh fun w=>by have h9:=Tryz.strings_HasPrefix rs ⟨#[47,47]⟩ w;rw [HRL.out] at h9;exact h9);(have HH2:Hid (∀ w,Calls Tryz.prog 108 #[.string rs,.string ⟨#[47,42]⟩] w fun e w'=>e = .returned (.bool (Lib.hasPrefix (x :: t) [47,42]))∧w'=w):=zh fun w=>by have h9:=Tryz.strings_HasPrefix rs ⟨#[47,42]⟩ w;rw [HRL.out] at h9;exact h9);have HSP:=zh hsp;have H10:=zh h10;clear h10 hsp;go_wp2_with fail;refine (HH1.out _).mono ?_;rintro e w1 ⟨rfl,hw⟩;subst w1;by_cases hpa:Lib.hasPrefix (x :: t) [47,47]=true
        case pos=>
          (have hc:x=47∧(t.headD 0=47∨t.headD 0=42):=by have h1:=(hp_iff (by decide)).1 hpa;exact ⟨h1.1,.inl h1.2⟩);rw [hpa];clear hpa;have HC:=zh hc
          have h47:s.data.toList[p]? = some 47:=by
            (have h1:(s.data.toList.drop p)[0]? = some 47:=by rw [HDR.out,hc.1];rfl);rw [List.getElem?_drop] at h1;exact h1
          have ht1:1≤t.length:=by
            cases t with
            | nil=>have h1:=hc.2;simp at h1
            | cons z t=>simp
          have hmx2:wb.cell? ⟨2,0,none⟩=some (.int .i64 mm):=(HB2.out.cell (p:=⟨2,0,none⟩) h2b).trans HMX.out;clear hc;go_wp2_with fail;have hrem:=remark_calls (base:=base) HS2.out (by omega) hs (by omega) h47 (by have h9:=HB2.out.size;omega) hmx2;rw [HDR.out] at hrem;have HREM:=zh hrem;clear hrem h47 hmx2;refine HREM.out.mono ?_;rintro e w4 ⟨hb4,hres⟩;have HB4:=zh (HB2.out.trans hb4);clear hb4 HREM;have HT1:Hid ((match remR (x :: t) with | none=>.error (p:Int) | some n=>scanL f ((x :: t).drop n) (p+n) (if 0≤Lib.indexByte ((x :: t).take n) 10 then lineT p l else l))=r):=zh (by have h1:=HT.out;unfold scanL at h1;rw [if_neg H10.out,if_neg HSP.out,if_pos HC.out] at h1;exact h1);clear HT HR;cases hrm:remR (x :: t) with
          | none=>
            rw [hrm] at hres HT1;obtain rfl:=hres;obtain rfl:r = .error p:=HT1.out.symm;go_wp2_with fail;exact ⟨rfl,HB4.out,rfl⟩
          | some k=>
            rw [hrm] at hres HT1;obtain ⟨rfl,hS4⟩:=hres;have HS4:=zh hS4;have hrb:=remR_bd hrm;have hll:=line_le (p:Int) l;clear hS4 hrm;go_wp2_with fail;obtain ⟨hk1,hk2⟩:=hrb ⟨t,by rw [HC.out.1]⟩;simp only [List.length_cons] at hk2
            go_roundg f
            case measure=>omega
            case rel=>exact ⟨p+k,_,by omega,by omega,(by split <;> omega),HS4,HB4,zh (by have h1:=HT1.out;rw [HDK.out] at h1;exact h1)⟩
        case neg=>
        rw [Bool.eq_false_iff.2 hpa];go_wp2_with fail;refine (HH2.out _).mono ?_;rintro e w1 ⟨rfl,hw⟩;subst w1;by_cases hpb:Lib.hasPrefix (x :: t) [47,42]=true
        case pos=>
          (have hc:x=47∧(t.headD 0=47∨t.headD 0=42):=by have h1:=(hp_iff (by decide)).1 hpb;exact ⟨h1.1,.inr h1.2⟩);rw [hpb];clear hpb hpa;have HC:=zh hc
          have h47:s.data.toList[p]? = some 47:=by
            (have h1:(s.data.toList.drop p)[0]? = some 47:=by rw [HDR.out,hc.1];rfl);rw [List.getElem?_drop] at h1;exact h1
          have ht1:1≤t.length:=by
            cases t with
            | nil=>have h1:=hc.2;simp at h1
            | cons z t=>simp
          have hmx2:wb.cell? ⟨2,0,none⟩=some (.int .i64 mm):=(HB2.out.cell (p:=⟨2,0,none⟩) h2b).trans HMX.out;clear hc;go_wp2_with fail;have hrem:=remark_calls (base:=base) HS2.out (by omega) hs (by omega) h47 (by have h9:=HB2.out.size;omega) hmx2;rw [HDR.out] at hrem;have HREM:=zh hrem;clear hrem h47 hmx2;refine HREM.out.mono ?_;rintro e w4 ⟨hb4,hres⟩;have HB4:=zh (HB2.out.trans hb4);clear hb4 HREM;have HT1:Hid ((match remR (x :: t) with | none=>.error (p:Int) | some n=>scanL f ((x :: t).drop n) (p+n) (if 0≤Lib.indexByte ((x :: t).take n) 10 then lineT p l else l))=r):=zh (by have h1:=HT.out;unfold scanL at h1;rw [if_neg H10.out,if_neg HSP.out,if_pos HC.out] at h1;exact h1);clear HT HR;cases hrm:remR (x :: t) with
          | none=>
            rw [hrm] at hres HT1;obtain rfl:=hres;obtain rfl:r = .error p:=HT1.out.symm;go_wp2_with fail;exact ⟨rfl,HB4.out,rfl⟩
          | some k=>
            rw [hrm] at hres HT1;obtain ⟨rfl,hS4⟩:=hres;have HS4:=zh hS4;have hrb:=remR_bd hrm;have hll:=line_le (p:Int) l;clear hS4 hrm;go_wp2_with fail;obtain ⟨hk1,hk2⟩:=hrb ⟨t,by rw [HC.out.1]⟩;simp only [List.length_cons] at hk2
            go_roundg f
            case measure=>omega
            case rel=>exact ⟨p+k,_,by omega,by omega,(by split <;> omega),HS4,HB4,zh (by have h1:=HT1.out;rw [HDK.out] at h1;exact h1)⟩
        case neg=>
        have HC:Hid (¬ (x=47∧(t.headD 0=47∨t.headD 0=42))):=zh (fun h=>h.2.elim (fun e=>hpa ((hp_iff (by decide)).2 ⟨h.1,e⟩)) (fun e=>hpb ((hp_iff (by decide)).2 ⟨h.1,e⟩)));rw [Bool.eq_false_iff.2 hpb];clear hpa hpb HH1 HH2;have HT1:Hid ((if 60<n then .error (p:Int) else if 0<n then scanL f ((x :: t).drop n) (p+n) (l ++ [⟨if wordB (bs ((x :: t).take n))=true then 4 else 1,p,p+n,bs ((x :: t).take n)⟩]) else if digU x=true then (match numR (x :: t) with | none=>.error (p:Int) | some n=>scanL f ((x :: t).drop n) (p+n) (l ++ [⟨2,p,p+n,bs ((x :: t).take n)⟩])) else if x=34 then (match textR p t (p+1) [] with | .error e=>.error e | .ok (q,tx)=>scanL f ((x :: t).drop (q - p)) q (l ++ [⟨3,p,q,bs tx⟩])) else if x=59 then scanL f t (p+1) (l ++ [⟨6,p,p+1,⟨#[59]⟩⟩]) else if signL (bs (x :: t))=0 then .error (p:Int) else scanL f ((x :: t).drop (signL (bs (x :: t)))) (p+signL (bs (x :: t))) (l ++ [⟨5,p,p+signL (bs (x :: t)),bs ((x :: t).take (signL (bs (x :: t))))⟩]))=r):=zh (by have h1:=HT.out;unfold scanL at h1;rw [if_neg H10.out,if_neg HSP.out,if_neg HC.out,HN.out] at h1;exact h1);clear HT HR;by_cases h60:60<n
        case pos=>
          (obtain rfl:r = .error p:=by have h1:=HT1.out;rw [if_pos h60] at h1;exact h1.symm);go_wp2_with fail;refine bads_calls.mono ?_;rintro e w9 ⟨rfl,hw⟩;subst w9;go_wp2_with fail;exact ⟨rfl,HB2.out,rfl⟩
        case neg=>
        by_cases hn0:0<n
        case pos=>
          have HTX:Hid (scanL f ((x :: t).drop n) (p+n) (l ++ [⟨if wordB (bs ((x :: t).take n))=true then 4 else 1,p,p+n,bs ((x :: t).take n)⟩])=r):=zh (by have h1:=HT1.out;rw [if_neg h60,if_pos hn0] at h1;exact h1);clear HT1;(have hpn:(p:Int)+(n:Int)≤(s.size:Int):=by omega);(have hn0i:0<(n:Int):=by omega);(have h60i:(n:Int)≤60:=by omega);obtain ⟨tk,htk⟩:∃ tk,rs.extract 0 n=tk:=⟨_,rfl⟩;have HTK:Hid (tk=bs ((x :: t).take n)):=zh (by rw [← htk,HRB.out];exact bs_take);have HS2n:Hid (SSt base (wb.setCell ⟨g,1,none⟩ (.int .i64 ((p:Int)+n))) g s (p+n) l):=zh (by have h9:=HS2.out.to_ (p:=p+n) (by omega);simpa using h9);have HB2n:Hid (Below base w (wb.setCell ⟨g,1,none⟩ (.int .i64 ((p:Int)+n)))):=zh (HB2.out.setCell hgb _);obtain ⟨wc,hnew⟩:∃ W,wb.setCell ⟨g,1,none⟩ (.int .i64 ((p:Int)+n))=W:=⟨_,rfl⟩;rw [hnew] at HS2n HB2n
          skip
          go_wp2_with fail;refine word_calls.mono ?_;rintro e w1 ⟨rfl,hw⟩;subst w1;by_cases hwd:wordB tk=true
          all_goals
            (first | rw [hwd] | rw [Bool.eq_false_iff.2 hwd]);go_wp2_with fail;refine (add_calls (base:=base) HS2n.out (by omega)).mono ?_;rintro e w5 ⟨rfl,hS5,hb5⟩;have HS5:=zh hS5;have HB5:=zh (HB2n.out.trans hb5);clear hS5 hb5;go_wp2_with fail
            go_roundg f
            case measure=>omega
            case rel=>exact ⟨p+n,_,by omega,by omega,(by simp;omega),HS5,HB5,zh (by have h1:=HTX.out;rw [← HTK.out] at h1;(first | rw [if_pos hwd] at h1 | rw [if_neg hwd] at h1);rw [HDK.out] at h1;simpa using h1)⟩
        case neg=>
        (obtain rfl:n=0:=by omega);clear hni hnle h60;have HT2:=zh HT1.out;rw [if_neg (by omega),if_neg (by omega)] at HT2;clear HT1;go_wp2_with fail;refine digit_calls.mono ?_;rintro e w1 ⟨rfl,hw⟩;subst w1;by_cases hdg:digitN x.toNat=true
        case pos=>
          rw [hdg];go_wp2_with fail;have hnum:=number_calls (base:=base) HS2.out (by omega) hs hp (by rw [HX.out];exact hdg) (by have h9:=HB2.out.size;omega);rw [HDR.out] at hnum;have HNUM:=zh hnum;clear hnum;refine HNUM.out.mono ?_;rintro e w4 ⟨hb4,hres⟩;have HB4:=zh (HB2.out.trans hb4);clear hb4 HNUM;have HT3:Hid ((match numR (x :: t) with | none=>.error (p:Int) | some n=>scanL f ((x :: t).drop n) (p+n) (l ++ [⟨2,p,p+n,bs ((x :: t).take n)⟩]))=r):=zh (by have h1:=HT2.out;rw [if_pos (show digU x=true from hdg)] at h1;exact h1);clear HT2;cases hrm:numR (x :: t) with
          | none=>
            rw [hrm] at hres HT3;obtain rfl:=hres;obtain rfl:r = .error p:=HT3.out.symm;go_wp2_with fail;exact ⟨rfl,HB4.out,rfl⟩
          | some k=>
            rw [hrm] at hres HT3;obtain ⟨rfl,hS4⟩:=hres;have HS4:=zh hS4;obtain ⟨hk1,hk2⟩:=numR_bd hrm hdg;simp only [List.length_cons] at hk2;clear hS4 hrm;go_wp2_with fail
            go_roundg f
            case measure=>omega
            case rel=>exact ⟨p+k,_,by omega,by omega,(by simp;omega),HS4,HB4,zh (by have h1:=HT3.out;rw [HDK.out] at h1;rw [ext_bs,HDR.out];simpa using h1)⟩
        case neg=>
        rw [Bool.eq_false_iff.2 hdg];have HT3:=zh HT2.out;rw [if_neg (show ¬ digU x=true from hdg)] at HT3;clear HT2 hdg;by_cases h34:x=34
        case pos=>
          subst h34;have HT4:=zh HT3.out;rw [if_pos rfl] at HT4;clear HT3;go_wp2_with fail;have htx:=text_calls (base:=base) HS2.out (by omega) hs hp (by have h9:=HB2.out.size;omega);rw [HTD.out] at htx;have HTX:=zh htx;clear htx;refine HTX.out.mono ?_;rintro e w4 ⟨hb4,hres⟩;have HB4:=zh (HB2.out.trans hb4);clear hb4 HTX;cases hrm:textR p t (p+1) [] with
          | error q=>
            rw [hrm] at hres HT4;obtain rfl:=hres;obtain rfl:r = .error q:=HT4.out.symm;go_wp2_with fail;exact ⟨rfl,HB4.out,rfl⟩
          | ok qt=>
            obtain ⟨q,tx⟩:=qt;rw [hrm] at hres HT4;obtain ⟨rfl,hS4⟩:=hres;have HS4:=zh hS4;obtain ⟨hk1,hk2⟩:=textR_bd _ _ _ hrm;clear hS4 hrm;go_wp2_with fail
            go_roundg f
            case measure=>omega
            case rel=>exact ⟨q,_,by omega,by omega,(by simp;omega),HS4,HB4,zh (by have h1:=HT4.out;rw [HDK.out,show p+(q - p)=q from by omega] at h1;exact h1)⟩
        case neg=>
        have f34:((x.toNat:Int) == 34)=false:=u8_ne h34;have HT4:=zh HT3.out;rw [if_neg h34] at HT4;clear HT3;by_cases h59:x=59
        case pos=>
          subst h59;have HT5:=zh HT4.out;rw [if_pos rfl] at HT5;clear HT4;(have hp1:(p:Int)+1≤(s.size:Int):=by omega);have HS2n:Hid (SSt base (wb.setCell ⟨g,1,none⟩ (.int .i64 ((p:Int)+1))) g s (p+1) l):=zh (by have h9:=HS2.out.to_ (p:=p+1) (by omega);simpa using h9);have HB2n:Hid (Below base w (wb.setCell ⟨g,1,none⟩ (.int .i64 ((p:Int)+1)))):=zh (HB2.out.setCell hgb _);obtain ⟨wc,hnew⟩:∃ W,wb.setCell ⟨g,1,none⟩ (.int .i64 ((p:Int)+1))=W:=⟨_,rfl⟩;rw [hnew] at HS2n HB2n;go_wp2_with fail;refine (add_calls (base:=base) HS2n.out (by omega)).mono ?_;rintro e w5 ⟨rfl,hS5,hb5⟩;have HS5:=zh hS5;have HB5:=zh (HB2n.out.trans hb5);clear hS5 hb5;go_wp2_with fail
          go_roundg f
          case measure=>omega
          case rel=>exact ⟨p+1,_,by omega,by omega,(by simp;omega),HS5,HB5,zh (by rw [HTD.out];simpa using HT5.out)⟩
        case neg=>
        have f59:((x.toNat:Int) == 59)=false:=u8_ne h59;have HT5:=zh HT4.out;rw [if_neg h59] at HT5;clear HT4;obtain ⟨k,hk⟩:∃ k,signL rs=k:=⟨_,rfl⟩;have hkr:=signL_le (s:=rs) h0z;rw [hk] at hkr;rw [← HRB.out,hk] at HT5;(have HSG:Hid (∀ w,Calls Tryz.prog 116 #[.string rs] w fun e w'=>e = .returned (.int .i64 k)∧w'=w):=zh fun w=>by have h9:=sign_calls (s:=rs) (w:=w) h0z (by omega);rw [hk] at h9;exact h9);clear hk;go_wp2_with fail;refine (HSG.out _).mono ?_;rintro e w1 ⟨rfl,hw⟩;subst w1;by_cases hk0:k=0
        case pos=>
          subst hk0;rw [if_pos rfl] at HT5;obtain rfl:r = .error p:=HT5.out.symm;go_wp2_with fail;refine bads_calls.mono ?_;rintro e w9 ⟨rfl,hw⟩;subst w9;go_wp2_with fail;exact ⟨rfl,HB2.out,rfl⟩
        case neg=>
        rw [if_neg hk0] at HT5;(have fk0:((k:Int) == 0)=false:=by rw [beq_eq_false_iff_ne];omega);(have hki:(k:Int)≤(rs.size:Int):=by omega);(have hk1:1≤k:=by omega);(have hpk:(p:Int)+(k:Int)≤(s.size:Int):=by omega);obtain ⟨tk,htk⟩:∃ tk,rs.extract 0 k=tk:=⟨_,rfl⟩;have HTK:Hid (tk=bs ((x :: t).take k)):=zh (by rw [← htk,HRB.out];exact bs_take);clear hk0;have HS2n:Hid (SSt base (wb.setCell ⟨g,1,none⟩ (.int .i64 ((p:Int)+k))) g s (p+k) l):=zh (by have h9:=HS2.out.to_ (p:=p+k) (by omega);simpa using h9);have HB2n:Hid (Below base w (wb.setCell ⟨g,1,none⟩ (.int .i64 ((p:Int)+k)))):=zh (HB2.out.setCell hgb _);obtain ⟨wc,hnew⟩:∃ W,wb.setCell ⟨g,1,none⟩ (.int .i64 ((p:Int)+k))=W:=⟨_,rfl⟩;rw [hnew] at HS2n HB2n;go_wp2_with fail;refine (add_calls (base:=base) HS2n.out (by omega)).mono ?_;rintro e w5 ⟨rfl,hS5,hb5⟩;have HS5:=zh hS5;have HB5:=zh (HB2n.out.trans hb5);clear hS5 hb5;go_wp2_with fail
        go_roundg f
        case measure=>omega
        case rel=>exact ⟨p+k,_,by omega,by omega,(by simp;omega),HS5,HB5,zh (by have h1:=HT5.out;rw [← HTK.out,HDK.out] at h1;simpa using h1)⟩
end
end Go.Proofs.YtfmgdmeopakdaaaGreatDoor
namespace Go.Proofs.YtfmgdmeopakdaaaGreatDoor
open Go Go.RowKit Go.Lib
def valF (s:ByteArray):Nat→Nat→Bool
  | 0,_=>true
  | f+1,pos=>if pos<s.size then (if (Utf8.decode s pos).1=0 then false else if Utf8.decode s pos=(65533,1) then false else valF s f (pos+(Utf8.decode s pos).2)) else true
theorem ext_get {s:ByteArray} {p i:Nat} (hp:p≤s.size) (h:p+i<s.size):(s.extract p s.size).get! i=s.get! (p+i):=by
  have h1:i<(s.extract p s.size).size:=by rw [ByteArray.size_extract];omega
  have e1:(s.extract p s.size).get! i=(s.extract p s.size)[i]:=by
    show (s.extract p s.size).data[i]! = _
    rw [getElem!_pos (s.extract p s.size).data i h1];rfl
  have e2:s.get! (p+i)=s[p+i]:=by
    show s.data[p+i]! = _
    rw [getElem!_pos s.data (p+i) h];rfl
  rw [e1,e2,ByteArray.getElem_extract]
theorem ext_dec {s:ByteArray} {p:Nat} (hp:p<s.size):Utf8.decode (s.extract p s.size) 0=Utf8.decode s p:=by
  (have hz:(s.extract p s.size).size=s.size - p:=by rw [ByteArray.size_extract];omega);rw [decode_at,decode_at,hz,Nat.sub_zero];(have h0:(s.extract p s.size).get! 0=s.get! p:=by rw [ext_get (by omega) (by omega)];rfl);rw [h0];(have key:∀ i,p+i<s.size→(s.extract p s.size).get! (0+i)=s.get! (p+i):=fun i h=>by rw [Nat.zero_add];exact ext_get (by omega) h);unfold decodeN;by_cases g1:p+1<s.size
  · rw [key 1 g1]
    by_cases g2:p+2<s.size
    · rw [key 2 g2]
      by_cases g3:p+3<s.size
      · rw [key 3 g3]
      · have:¬ 3<s.size - p:=by omega
        simp only [this,false_and,and_false,if_false]
    · have n2:¬ 2<s.size - p:=by omega
      (have n3:¬ 3<s.size - p:=by omega);simp only [n2,n3,false_and,and_false,if_false]
  · have n1:¬ 1<s.size - p:=by omega
    (have n2:¬ 2<s.size - p:=by omega);(have n3:¬ 3<s.size - p:=by omega);simp only [n1,n2,n3,false_and,and_false,if_false]
theorem dec_w (s:ByteArray) (p:Nat) (h:p<s.size):1≤(Utf8.decode s p).2∧p+(Utf8.decode s p).2≤s.size:=by
  rw [decode_at];unfold decodeN
  (repeat' split) <;> simp only <;> omega
theorem valF_zero {s:ByteArray} {f pos:Nat} (hp:pos<s.size) (h:(Utf8.decode s pos).1=0):valF s (f+1) pos=false:=by unfold valF;rw [if_pos hp,if_pos h]
theorem valF_bad {s:ByteArray} {f pos:Nat} (hp:pos<s.size) (h:Utf8.decode s pos=(65533,1)):valF s (f+1) pos=false:=by
  unfold valF;rw [if_pos hp,if_neg (by rw [h];simp),if_pos h]
theorem valF_next {s:ByteArray} {f pos:Nat} (hp:pos<s.size) (h0:(Utf8.decode s pos).1≠0) (h:Utf8.decode s pos≠(65533,1)):valF s (f+1) pos=valF s f (pos+(Utf8.decode s pos).2):=by
  conv=>lhs;unfold valF
  rw [if_pos hp,if_neg h0,if_neg h]
theorem valF_end {s:ByteArray} {f pos:Nat} (hp:¬ pos<s.size):valF s f pos=true:=by
  cases f with
  | zero=>rfl
  | succ f=>unfold valF;rw [if_neg hp]
theorem dec_hi (s:ByteArray) (p:Nat):(Utf8.decode s p).1≤1114111:=by
  rw [decode_at];have h0:(s.get! p).toNat<256:=UInt8.toNat_lt _;unfold decodeN
  (repeat' split) <;> simp only <;> omega
set_option maxHeartbeats 4000000 in
set_option maxRecDepth 1000000 in
theorem valid_calls {s:ByteArray} {w:World} (hs:s.size≤140737488355328) (hT:Lib.Utf8Tabs 0 1 w) :
    Calls Tryz.prog 81 #[.string s] w fun e w'=>e = .returned (.bool (valF s s.size 0))∧Below w.heap.size w w':=by
  have HTB:Hid (∀ W,Below w.heap.size w W→Lib.Utf8Tabs 0 1 W):=fun W h=>Utf8Tabs_below hT h;obtain ⟨r,hr⟩:∃ r,valF s s.size 0=r:=⟨_,rfl⟩;rw [hr];have HV:=zh hr;clear hr hT;go_enter Tryz.func81,Tryz.ntmps81;go_wp2_with fail
  go_loopw [] (fun wr=>∃ (pos fuel:Nat),wr.heap[w.heap.size]? = some (.stringIter s pos)∧Hid (Below w.heap.size w wr)∧Hid (valF s fuel pos=r)∧s.size≤pos+fuel∧pos≤s.size) (fun wr=>s.size - wr.iterPos w.heap.size)
  case atStart=>
    refine ⟨0,s.size,?_,(Below.refl _ w).alloc (Nat.le_refl _) _,HV.out,by omega,by omega⟩;exact World.iter_heap w s 0
  case round=>
    obtain ⟨pos,fuel,hit,HBW,HVF,hfu,hps⟩:=hrel;have hsz:w.heap.size<wr.heap.size:=(Array.getElem?_eq_some_iff.1 hit).1;by_cases hp:pos<s.size
    · obtain ⟨f,rfl⟩:∃ f,fuel=f+1:=⟨fuel - 1,by omega⟩
      have hw:=dec_w s pos hp;have hhi:=dec_hi s pos;have hz:=fun h=>valF_zero (f:=f) hp h;have hbad:=fun h=>valF_bad (f:=f) hp h;have hnext:=fun h0 h=>valF_next (f:=f) hp h0 h;have hed:=ext_dec hp;have hnx:∀ ty,(Instr.next (.pointer (some ⟨w.heap.size,0,none⟩)) true ty).run Tryz.prog wr = .ok (.tuple #[.bool true,.int .i64 pos,.int .i32 (Utf8.decode s pos).1]) (wr.iterAt w.heap.size s (pos+(Utf8.decode s pos).2)):=fun ty=>Lib.run_next_any_at wr w.heap.size s pos ty hit hp;obtain ⟨D1,D2,hD⟩:∃ D1 D2,Utf8.decode s pos=(D1,D2):=⟨_,_,rfl⟩;rw [hD] at hw hhi hz hbad hnext hed;simp only [hD] at hnx;simp only at hw hhi hz hbad hnext;have hit2:=Lib.iterAt_heap wr w.heap.size s pos (pos+D2) hit;have HB2:Hid (Below w.heap.size w (wr.iterAt w.heap.size s (pos+D2))):=Lib.below_iterAt HBW.out (Nat.le_refl _) s (pos+D2);have hz2:(wr.iterAt w.heap.size s (pos+D2)).heap.size=wr.heap.size:=Lib.iterAt_size _ _ _ _;have HED:=zh hed;have HNX:=zh hnext;have HBD:=zh hbad;have HZ:=zh hz;have HZ2:=zh hz2;have HI2:=zh hit2;have HIT:=zh hit;clear hed hnext hbad hz hD hz2 hit2 hit;by_cases h0:D1=0
      · have HF:Hid (r=false):=by have h1:=HVF.out;rw [HZ.out h0] at h1;exact h1.symm
        subst h0;go_wp2_with fail;go_ret;exact ⟨by rw [HF.out];rfl,HB2.out⟩
      · have hd0:(((D1:Nat):Int) == 0)=false:=by simpa using h0
        have HH0:=zh h0;by_cases h1:D1=65533
        · have hd1:(((D1:Nat):Int) == 65533)=true:=by rw [h1];rfl
          have hdg:Lib.decodeGo (s.extract pos s.size)=(D1,D2):=by
            unfold Lib.decodeGo;rw [if_neg (by rw [ByteArray.size_extract];omega),HED.out]
          have HDC:Hid (∀ W,Below w.heap.size w W→Calls Tryz.prog 105 #[.string (s.extract pos s.size)] W fun e w'=>e = .returned (.tuple #[.int .i32 (D1:Int),.int .i64 (D2:Int)])∧Below W.heap.size W w'):=fun W h=>by
            have:=Tryz.utf8_DecodeRuneInString (s.extract pos s.size) W (HTB.out W h);rw [hdg] at this;exact this
          have HH1:=zh h1;clear h0 h1 hdg;by_cases h2:D2=1
          · have HF:Hid (r=false):=by have h3:=HVF.out;rw [HBD.out (by rw [HH1.out,h2])] at h3;exact h3.symm
            (have hd2:(((D2:Nat):Int) == 1)=true:=by rw [h2];rfl);clear h2;go_wp2_with (go_at_call 105;refine (HDC.out _ HB2.out).mono ?_;rintro e w5 ⟨rfl,hb5⟩);go_ret;exact ⟨by rw [HF.out];rfl,HB2.out.trans (hb5.mono HB2.out.size)⟩
          · have HF:Hid (valF s f (pos+D2)=r):=by have h3:=HVF.out;rw [HNX.out HH0.out (by intro e;cases e;exact h2 rfl)] at h3;exact h3
            have hd2:(((D2:Nat):Int) == 1)=false:=by
              cases e:(((D2:Nat):Int) == 1) with
              | false=>rfl
              | true=>exact absurd (by have:=beq_iff_eq.1 e;omega) h2
            clear h2;go_wp2_with (go_at_call 105;refine (HDC.out _ HB2.out).mono ?_;rintro e w5 ⟨rfl,hb5⟩);have hit5:w5.heap[w.heap.size]? = some (.stringIter s (pos+D2)):=(hb5.block w.heap.size (by rw [HZ2.out];exact hsz)).trans HI2.out
            go_roundw
            case rel=>exact ⟨pos+D2,f,hit5,HB2.out.trans (hb5.mono HB2.out.size),HF.out,by omega,hw.2⟩
            case measure=>
              simp only [World.iterPos,hit5,HIT.out];omega
        · have hd1:(((D1:Nat):Int) == 65533)=false:=by
            cases e:(((D1:Nat):Int) == 65533) with
            | false=>rfl
            | true=>exact absurd (by have:=beq_iff_eq.1 e;omega) h1
          (have HF:Hid (valF s f (pos+D2)=r):=by have h3:=HVF.out;rw [HNX.out HH0.out (by intro e;cases e;exact h1 rfl)] at h3;exact h3);clear h0 h1;go_wp2_with fail
          go_roundw
          case rel=>exact ⟨pos+D2,f,HI2.out,HB2.out,HF.out,by omega,hw.2⟩
          case measure=>
            simp only [World.iterPos,HI2.out,HIT.out];omega
    · have HF:Hid (r=true):=by have h1:=HVF.out;rw [valF_end hp] at h1;exact h1.symm
      have hnx:∀ ty,(Instr.next (.pointer (some ⟨w.heap.size,0,none⟩)) true ty).run Tryz.prog wr = .ok (.tuple #[.bool false]) wr:=fun ty=>Lib.run_next_end_at wr w.heap.size s pos ty hit hp;clear hit;go_wp2_with fail;go_ret;exact ⟨by rw [HF.out];rfl,HBW.out⟩
def liftE:Except Int (List Tk)→Except (Int×Int) (List Tk)
  | .error p=>.error (3,p)
  | .ok l=>.ok l
def scanM (s:ByteArray):Except (Int×Int) (List Tk):=
  if 65536<s.size∨valF s s.size 0=false then .error (2,0) else liftE (scanL (s.size+1) s.data.toList 0 [])
set_option maxRecDepth 100000
set_option maxHeartbeats 4000000
theorem tassert (v:Value) (w:World):(Instr.typeAssert (.iface 92 v) 20 92 true).run Tryz.prog w = .ok (.tuple #[v,.bool true]) w:=by kernel_rfl
section
variable {w:World} {A B:Nat}
def zeroS:Array Value:=#[.string ⟨#[]⟩,.int .i64 0,.slice none 0 0,.slice none 0 0]
def CaughtS (w:World) (a b:Nat) (pv:Int) (w':World):Prop:=∃ g,w.heap.size≤g∧Blk w' g 83 zeroS∧Blk w' a 79 #[.pointer (some ⟨g,0,none⟩)]∧Blk w' b 27 #[.int .i64 3,.string ⟨#[]⟩,.int .i64 pv]∧But (fun k=>k=a∨k=b) w w'
theorem catch_s {a b:Nat} {pv:Int} {older:List PanicEntry} {A':Option Addr} (ha:Blk w a 79 #[.pointer A']) (hb:Blk w b 27 #[.int .i64 0,.string ⟨#[]⟩,.int .i64 0]) (hab:a≠b) :
    CallsD Tryz.prog 82 #[.pointer (some ⟨a,0,none⟩),.pointer (some ⟨b,0,none⟩)] (.panicking ({ v:=.iface 92 (.agg #[.int .i64 3,.string ⟨#[]⟩,.int .i64 pv]),recovered:=false } :: older)) w fun e u' w'=>
      e = .returned (.tuple #[])∧u' = .panicking ({ v:=.iface 92 (.agg #[.int .i64 3,.string ⟨#[]⟩,.int .i64 pv]),recovered:=true } :: older)∧CaughtS w a b pv w':=by
  refine callsD_of_wpS Tryz.func82 rfl fun c₀ cs hu=>?_;apply wpS_seq;apply wpS_region;simp [wpOpsS,go_sem,recoverD,hu,Tryz.ntmps82,Exit.thenS];apply wpS_seq;apply wpS_region;simp [wpOpsS,go_sem,Exit.thenS];refine wpS_cond (t:=true) (by simp [Act.eval,Array.replicate]) ?_;simp only [if_true];refine wpS_of_wp ?_;have HA:=zh ha;have HB:=zh hb;have qa:=ha.cell 0;have qb0:=hb.cell 0;have qb1:=hb.cell 1;have qb2:=hb.cell 2;simp at qa qb0 qb1 qb2;have qaf:=ha.frozen;have qbf:=hb.frozen;have qal:=ha.lt;have qbl:=hb.lt;have hta:=tassert;simp only [Array.replicate_succ,Array.replicate_zero,List.push_toArray,zl4,zl5,zl6,List.append_toArray,List.nil_append,List.cons_append];go_wp2_with fail;clear hta ha hb
  go_region
  all_goals
    go_wp2_with fail;refine ⟨rfl,_,rfl,_,results_none rfl _ _ _,rfl,rfl,w.heap.size+1,Nat.le_succ _,Blk.new' (by simp),?_,?_,?_⟩
    · exact ((((((HA.out.put1 _).far1 hab _).far1 hab _).far1 hab _).alloc _).alloc _)
    · have:=((((HB.out.far1 (o:=0) (Ne.symm hab) (.pointer (some ⟨w.heap.size+1,0,none⟩))).set_ 0 (.int .i64 3)).set_ 1 (.string ⟨#[]⟩)).set_ 2 (.int .i64 pv))
      exact ((by simpa using this:Blk _ b _ _).alloc _).alloc _
    · exact ((((((zb.set1 (.inr (.inl rfl)) _).set1 (.inr (.inr rfl)) _).set1 (.inr (.inr rfl)) _).set1 (.inr (.inr rfl)) _).alloc _).alloc _).drew
theorem catch_idle {a b:Nat} :
    CallsD Tryz.prog 82 #[.pointer (some ⟨a,0,none⟩),.pointer (some ⟨b,0,none⟩)] .returning w fun e u' w'=>e = .returned (.tuple #[])∧u' = .returning∧w'=w:=by
  refine callsD_of_wpS Tryz.func82 rfl fun c₀ cs hu=>?_;apply wpS_seq;apply wpS_region;simp [wpOpsS,go_sem,recoverD,hu,Tryz.ntmps82,Exit.thenS];apply wpS_seq;apply wpS_region;simp [wpOpsS,go_sem,Exit.thenS];refine wpS_cond (t:=false) (by simp [Act.eval,Array.replicate]) ?_;simp only [Bool.false_eq_true,if_false];refine wpS_of_wp (wp_skip ?_);cases c₀
  simp_all [bodyPostS,results,Tryz.results82]
theorem res_two {W:World} {a b:Nat} {v2 c0 c1 c2 x0 x1 x4 x5 x6 x7 x8 x9 x10 x11 x12 x13 x14 x15 x16 x17 x18 x19 x20 x21 x22:Value} (h:Blk W a 79 #[v2]) (h':Blk W b 27 #[c0,c1,c2]) :
    (results Tryz.f64 #[x0,x1,.pointer (some ⟨a,0,none⟩),.pointer (some ⟨b,0,none⟩),x4,x5,x6,x7,x8,x9,x10,x11,x12,x13,x14,x15,x16,x17,x18,x19,x20,x21,x22]).run Tryz.prog W = .ok (.tuple #[v2,.agg #[c0,c1,c2]]) W:=by
  have c2:=h.cell 0;have c30:=h'.cell 0;have c31:=h'.cell 1;have c32:=h'.cell 2;simp at c2 c30 c31 c32;simp [results,Tryz.results64,go_sem,c2,c30,c31,c32]
theorem own_mono {w:World} {base base':Nat} {e:TypeId} {size n:Nat} {v:Value} {xs:List Value} (h:w.ownsRow base e size v n xs) (hb:base'≤base):w.ownsRow base' e size v n xs:=
  ⟨h.1,h.2.imp id fun ⟨g,cap,cur,h1,h2,h3⟩=>⟨g,cap,cur,h1,Nat.le_trans hb h2,h3⟩⟩
theorem SSt.low {base:Nat} {W:World} {g at_:Nat} {s:ByteArray} {l:List Tk} (h:SSt base W g s at_ l) {p:Addr} (hp:p.block<base) (u:Value):SSt base (W.setCell p u) g s at_ l:=by
  obtain ⟨A,c,R,m,d,xs,h1,h2,h3,h4,h5⟩:=h;exact ⟨A,c,R,m,d,xs,h1.far (by omega) u,ownsRow_setCell_below h2 hp u,ownsRow_setCell_below h3 hp u,h4,h5⟩
theorem SSt.mono {base base':Nat} {W:World} {g at_:Nat} {s:ByteArray} {l:List Tk} (h:SSt base W g s at_ l) (hb:base'≤base):SSt base' W g s at_ l:=by
  obtain ⟨A,c,R,m,d,xs,h1,h2,h3,h4,h5⟩:=h;exact ⟨A,c,R,m,d,xs,h1,own_mono h2 hb,own_mono h3 hb,h4,Nat.le_trans hb h5⟩
def ScanRes (w:World) (s:ByteArray) (r:Except (Int×Int) (List Tk)) (e:Ending) (w':World):Prop:=
  Below w.heap.size w w'∧∃ g,w.heap.size≤g∧match r with
  | .error (c,p)=>e = .returned (.tuple #[.pointer (some ⟨g,0,none⟩),.agg #[.int .i64 c,.string ⟨#[]⟩,.int .i64 p]])∧Blk w' g 83 zeroS
  | .ok l=>e = .returned (.tuple #[.pointer (some ⟨g,0,none⟩),.agg #[.int .i64 0,.string ⟨#[]⟩,.int .i64 0]])∧∃ q,SSt w.heap.size w' g s q l
theorem scanned_calls {s:ByteArray} (hs:s.size≤140737488355328) (hT:Lib.Utf8Tabs 0 1 w) (h3:3≤w.heap.size) {mm:Int} (hmx:w.cell? ⟨2,0,none⟩=some (.int .i64 mm)) :
    Calls Tryz.prog 64 #[.string s] w (ScanRes w s (scanM s)):=by
  have hmf:∀ (fn:Fn) (first cap:Array Value) (w:World),(Instr.makeFunc fn first cap).run Tryz.prog w = .ok (.func fn first cap) w:=fun _ _ _ _=>rfl;obtain ⟨r,hr⟩:∃ r,scanM s=r:=⟨_,rfl⟩;rw [hr];have HR:=zh hr;have HT:=zh hT;have HMX:=zh hmx;clear hr hT hmx;by_cases hbig:65536<s.size
  · obtain rfl:r = .error (2,0):=by have h1:=HR.out;unfold scanM at h1;rw [if_pos (.inl hbig)] at h1;exact h1.symm
    have hbi:(65536:Int)<(s.size:Int):=by omega
    go_enter_defers Tryz.func64,Tryz.ntmps64
    go_wp2_with fail;simp [bodyPostD,Leaves,results,Tryz.results64,go_sem];exact ⟨(((Below.refl _ _).alloc (Nat.le_refl _) _).alloc (by simp) _).alloc (by simp;omega) _,_,by omega,rfl,Blk.new' (by simp)⟩
  (have hbi:decide ((65536:Int)<(s.size:Int))=false:=by simp;omega);(have hbn:decide (65536<s.size)=false:=by simp;omega);have hbp:¬ 65536<s.size:=hbig;have hbq:¬ (65536:Int)<(s.size:Int):=by omega
  go_enter_defers Tryz.func64,Tryz.ntmps64
  go_wp2_with fail;refine (valid_calls hs (Utf8Tabs_below HT.out (((Below.refl _ _).alloc (Nat.le_refl _) _).alloc (by simp) _))).mono ?_;rintro e w1 ⟨rfl,hb1⟩
  generalize hW0:((w.alloc _).alloc _)=W0 at hb1
  (have hsz0:W0.heap.size=w.heap.size+2:=by subst hW0;simp);have kb:Hid (Below w.heap.size w w1):=zh (Below.trans (by subst hW0;exact (((Below.refl _ _).alloc (Nat.le_refl _) _).alloc (by simp) _)) (hb1.mono (by omega)));(have hb2:Hid (Blk w1 w.heap.size 79 #[.pointer none]):=by subst hW0;exact zh ((Blk.alloc (Blk.new _ _ _) _).below hb1 (by simp;omega)));(have hb3:Hid (Blk w1 (w.heap.size+1) 27 #[.int .i64 0,.string ⟨#[]⟩,.int .i64 0]):=by subst hW0;exact zh ((Blk.new' (by simp)).below hb1 (by simp)));(have hsz1:w.heap.size+2≤w1.heap.size:=by have:=hb1.size;omega);(have hl2:w.heap.size<w1.heap.size:=by omega);(have hl3:w.heap.size+1<w1.heap.size:=by omega);have hc2:=hb2.out.cell 0;have hf2:=hb2.out.frozen;have hc30:=hb3.out.cell 0;have hc31:=hb3.out.cell 1;have hc32:=hb3.out.cell 2;have hf3:=hb3.out.frozen;simp at hc2 hc30 hc31 hc32;clear hb1 hW0 hsz0 W0;cases hv:valF s s.size 0
  · obtain rfl:r = .error (2,0):=by have h1:=HR.out;unfold scanM at h1;rw [if_pos (.inr hv)] at h1;exact h1.symm
    go_wp2_with fail;refine ⟨_,res_two ((((hb2.out.put1 _).far1 (by omega) _).far1 (by omega) _).far1 (by omega) _ |>.alloc _) ((((hb3.out.far1 (by omega) _).set_ 0 _).set_ 1 _).set_ 2 _ |>.alloc _),?_⟩;exact ⟨((((kb.out.setCell (Nat.le_refl _) _).setCell (Nat.le_succ _) _).setCell (Nat.le_succ _) _).setCell (Nat.le_succ _) _).alloc (by simp;omega) _,_,by omega,rfl,Blk.new' (by simp)⟩
  · have HV:=zh hv
    clear hv;go_wp2_with fail;obtain ⟨q,hq⟩:∃ q,scanL (s.size+1) s.data.toList 0 []=q:=⟨_,rfl⟩
    have hrq:r=liftE q:=by
      have h1:=HR.out;unfold scanM at h1;rw [if_neg (fun h=>h.elim hbp (fun h=>by rw [HV.out] at h;cases h)),hq] at h1;exact h1.symm
    have HQ:=zh hq;have hg:Blk ((w1.setCell ⟨w.heap.size,0,none⟩ (.pointer (some ⟨w1.heap.size,0,none⟩))).alloc (.cells #[.string s,.int .i64 0,.slice none 0 0,.slice none 0 0] 83)) w1.heap.size 83 #[.string s,.int .i64 0,.slice none 0 0,.slice none 0 0]:=Blk.new' (by simp);have hk2:Blk ((w1.setCell ⟨w.heap.size,0,none⟩ (.pointer (some ⟨w1.heap.size,0,none⟩))).alloc (.cells #[.string s,.int .i64 0,.slice none 0 0,.slice none 0 0] 83)) w.heap.size 79 #[.pointer (some ⟨w1.heap.size,0,none⟩)]:=(hb2.out.put1 _).alloc _;have hk3:Blk ((w1.setCell ⟨w.heap.size,0,none⟩ (.pointer (some ⟨w1.heap.size,0,none⟩))).alloc (.cells #[.string s,.int .i64 0,.slice none 0 0,.slice none 0 0] 83)) (w.heap.size+1) 27 #[.int .i64 0,.string ⟨#[]⟩,.int .i64 0]:=(hb3.out.far1 (by omega) _).alloc _;have hbw:Below w.heap.size w ((w1.setCell ⟨w.heap.size,0,none⟩ (.pointer (some ⟨w1.heap.size,0,none⟩))).alloc (.cells #[.string s,.int .i64 0,.slice none 0 0,.slice none 0 0] 83)):=(kb.out.setCell (Nat.le_refl _) _).alloc (by simp;omega) _;have hsz2:((w1.setCell ⟨w.heap.size,0,none⟩ (.pointer (some ⟨w1.heap.size,0,none⟩))).alloc (.cells #[.string s,.int .i64 0,.slice none 0 0,.slice none 0 0] 83)).heap.size=w1.heap.size+1:=by simp
    generalize hW:((w1.setCell ⟨w.heap.size,0,none⟩ (.pointer (some ⟨w1.heap.size,0,none⟩))).alloc (.cells #[.string s,.int .i64 0,.slice none 0 0,.slice none 0 0] 83))=W at hg hk2 hk3 hbw hsz2
    (try rw [hW])
    clear hW;refine (scan_calls (base:=w1.heap.size) ⟨none,0,none,0,0,[],⟨hg,World.ownsRow_nil _ _ _ _,World.ownsRow_nil _ _ _ _,Nat.le_refl _,Nat.le_refl _⟩⟩ (Nat.le_of_not_lt hbp) (by omega) (by omega) (mm:=mm) (by rw [hbw.cell (p:=⟨2,0,none⟩) (by show 2<_;omega)];exact HMX.out)).mono ?_;rintro e w3 ⟨hb4,hr4⟩;rw [hq] at hr4;clear hq;have hk2':Blk w3 w.heap.size 79 #[.pointer (some ⟨w1.heap.size,0,none⟩)]:=hk2.below hb4 (by omega);have hk3':Blk w3 (w.heap.size+1) 27 #[.int .i64 0,.string ⟨#[]⟩,.int .i64 0]:=hk3.below hb4 (by omega);have hbw3:Below w.heap.size w w3:=hbw.trans (hb4.mono (by omega));have hsz3:=hb4.size;cases q with
    | error p=>
      subst hrq;obtain rfl:=hr4;refine leaves_cons (f:=82) (args:=#[.pointer (some ⟨w.heap.size,0,none⟩),.pointer (some ⟨w.heap.size+1,0,none⟩)]) (by simp) (by simp [go_sem]) ?_;refine (catch_s hk2' hk3' (by omega)).mono ?_;rintro e u' w4 ⟨rfl,rfl,g,hg1,hg2,hg3,hg4,hg5⟩;have c2:=hg3.cell 0;have c30:=hg4.cell 0;have c31:=hg4.cell 1;have c32:=hg4.cell 2;simp at c2 c30 c31 c32;simp [Leaves,settle,results,Tryz.results64,go_sem,c2,c30,c31,c32];exact ⟨hbw3.trans (hg5.below (fun i _ hi=>by rcases hi with rfl | rfl <;> omega) (by omega)),g,by omega,rfl,hg2⟩
    | ok l=>
      subst hrq;obtain ⟨rfl,q,hS⟩:=hr4;have c2:=hk2'.cell 0;have c30:=hk3'.cell 0;have c31:=hk3'.cell 1;have c32:=hk3'.cell 2;have f2:=hk2'.frozen;have f3:=hk3'.frozen;have l2:=hk2'.lt;have l3:=hk3'.lt;simp at c2 c30 c31 c32;have HS:=zh hS;clear hS hk2 hk3 hg;go_wp2_with fail;clear c2 c30 c31 c32 f2 f3 l2 l3;refine leaves_cons (f:=82) (args:=#[.pointer (some ⟨w.heap.size,0,none⟩),.pointer (some ⟨w.heap.size+1,0,none⟩)]) (by simp) (by simp [go_sem]) ?_;refine catch_idle.mono ?_;rintro e u' w4 ⟨rfl,rfl,rfl⟩;refine ⟨_,res_two ((((hk2'.put1 _).far1 (by omega) _).far1 (by omega) _).far1 (by omega) _) ((((hk3'.far1 (by omega) _).set_ 0 _).set_ 1 _).set_ 2 _),?_⟩;exact ⟨(((hbw3.setCell (Nat.le_refl _) _).setCell (Nat.le_succ _) _).setCell (Nat.le_succ _) _).setCell (Nat.le_succ _) _,_,by omega,rfl,q,SSt.mono ((((HS.out.low (by simp;omega) _).low (by simp;omega) _).low (by simp;omega) _).low (by simp;omega) _) (by omega)⟩
theorem res_tok {W:World} {b:Nat} {v c0 c1 c2 x0 x1 x4 x5 x6 x7 x8 x9 x10 x11 x12 x13 x14 x15:Value} (h':Blk W b 27 #[c0,c1,c2]) :
    (results Tryz.f31 #[x0,x1,v,.pointer (some ⟨b,0,none⟩),x4,x5,x6,x7,x8,x9,x10,x11,x12,x13,x14,x15]).run Tryz.prog W = .ok (.tuple #[v,.agg #[c0,c1,c2]]) W:=by
  have c30:=h'.cell 0;have c31:=h'.cell 1;have c32:=h'.cell 2;simp at c30 c31 c32;simp [results,Tryz.results31,go_sem,c30,c31,c32]
def TokRes (w:World) (r:Except (Int×Int) (List Tk)) (e:Ending) (w':World):Prop:=
  Below w.heap.size w w'∧match r with
  | .error (c,p)=>e = .returned (.tuple #[.slice none 0 0,.agg #[.int .i64 c,.string ⟨#[]⟩,.int .i64 p]])
  | .ok l=>∃ A c,e = .returned (.tuple #[.slice A l.length c,.agg #[.int .i64 0,.string ⟨#[]⟩,.int .i64 0]])∧w'.ownsRow w.heap.size 36 4 (.slice A l.length c) l.length (flatT l)
theorem tokens_calls {s:ByteArray} (hs:s.size≤140737488355328) (hT:Lib.Utf8Tabs 0 1 w) (h3:3≤w.heap.size) {mm:Int} (hmx:w.cell? ⟨2,0,none⟩=some (.int .i64 mm)) :
    Calls Tryz.prog 31 #[.string s] w (TokRes w (scanM s)):=by
  obtain ⟨r,hr⟩:∃ r,scanM s=r:=⟨_,rfl⟩;rw [hr];have HR:=zh hr;have HT:=zh hT;have HMX:=zh hmx;clear hr hT hmx;go_enter Tryz.func31,Tryz.ntmps31;go_wp2_with fail;refine (scanned_calls hs (Utf8Tabs_below HT.out ((Below.refl _ _).alloc (Nat.le_refl _) _)) (by simp;omega) (mm:=mm) (by rw [((Below.refl _ _).alloc (Nat.le_refl _) _:Below w.heap.size w _).cell (p:=⟨2,0,none⟩) (by show 2<_;omega)];exact HMX.out)).mono ?_;rintro e w1 ⟨hb1,g,hg,hr1⟩;rw [HR.out] at hr1;have kb:Hid (Below w.heap.size w w1):=zh (((Below.refl _ _).alloc (Nat.le_refl _) _).trans (hb1.mono (by simp)));have hb3:Hid (Blk w1 w.heap.size 27 #[.int .i64 0,.string ⟨#[]⟩,.int .i64 0]):=zh ((Blk.new _ _ _).below hb1 (by simp));have hsz1:=hb1.size;simp at hsz1 hg;(have hl3:w.heap.size<w1.heap.size:=by omega);have hc30:=hb3.out.cell 0;have hc31:=hb3.out.cell 1;have hc32:=hb3.out.cell 2;have hf3:=hb3.out.frozen;simp at hc30 hc31 hc32;have HR1:=zh hr1;clear hb1 hr1;cases r with
  | error cp=>
    obtain ⟨c,p⟩:=cp;have hr1:=HR1.out;obtain ⟨rfl,hZ⟩:=hr1;have hc3:=hZ.cell 2;have hlg:=hZ.lt;simp [zeroS] at hc3;clear HR1 hZ;go_wp2_with fail
    go_region
    all_goals
      go_wp2_with fail;refine bodyPost_ret (res_tok (((hb3.out.set_ 0 _).set_ 1 _).set_ 2 _ |>.alloc _).drew) rfl ?_;exact ⟨((((kb.out.setCell (Nat.le_refl _) _).setCell (Nat.le_refl _) _).setCell (Nat.le_refl _) _).alloc (by simp;omega) _).drew,rfl⟩
  | ok l=>
    have hr1:=HR1.out;obtain ⟨rfl,q,A,c,R,m,d,xs,hm⟩:=hr1;have hc3:=hm.blk.cell 2;have hlg:=hm.blk.lt;simp at hc3;have HM:=zh hm;clear HR1 hm;go_wp2_with fail
    go_region
    all_goals
      go_wp2_with fail;refine bodyPost_ret (res_tok (((hb3.out.set_ 0 _).set_ 1 _).set_ 2 _ |>.alloc _).drew) rfl ?_;refine ⟨((((kb.out.setCell (Nat.le_refl _) _).setCell (Nat.le_refl _) _).setCell (Nat.le_refl _) _).alloc (by simp;omega) _).drew,A,c,rfl,?_⟩;have hlt:w.heap.size<w.heap.size+1:=Nat.lt_succ_self _;exact own_mono ((ownsRow_setCell_below (ownsRow_setCell_below (ownsRow_setCell_below HM.out.tok (by simp) _) (by simp) _) (by simp) _).alloc _) (by simp)
end
structure EndT (n:Nat) (l:List Tk):Prop where
  ex:∃ m z,l=m ++ [z]∧z.k=7∧(∀ t ∈ m,t.k≠7)∧m.length≤n
theorem app_n7 {l:List Tk} {z:Tk} (h:∀ t ∈ l,t.k≠7) (hz:z.k≠7):∀ t ∈ l ++ [z],t.k≠7:=by
  intro t ht;rcases List.mem_append.1 ht with ht | ht
  · exact h t ht
  · simp only [List.mem_singleton] at ht
    subst ht;exact hz
theorem line_n7 {p:Int} {l:List Tk} (h:∀ t ∈ l,t.k≠7):∀ t ∈ lineT p l,t.k≠7:=by
  unfold lineT
  repeat' split
  all_goals first | exact h | exact app_n7 h (fun e=>absurd (show (6:Int)=7 from e) (by decide))
theorem drop_lt {c:UInt8} {t:List UInt8} {n f:Nat} (hn:1≤n) (h:(c :: t).length<f+1):((c :: t).drop n).length<f:=by
  rw [List.length_drop];simp only [List.length_cons] at h ⊢;omega
theorem scan_end:∀ (f:Nat) (r:List UInt8) (p:Nat) (l:List Tk) {l':List Tk},r.length<f→(∀ t ∈ l,t.k≠7)→scanL f r p l = .ok l'→EndT (l.length+r.length+1) l'
  | 0,r,p,l,l',hf,hl,h=>absurd hf (Nat.not_lt_zero _)
  | f+1,[],p,l,l',hf,hl,h=>by
    have h:Except.ok (lineT p l ++ [⟨7,p,p,⟨#[]⟩⟩])=(Except.ok l':Except Int (List Tk)):=h;cases h;exact ⟨_,_,rfl,rfl,line_n7 hl,by have:=line_le p l;simp;omega⟩
  | f+1,c :: t,p,l,l',hf,hl,h=>by
    have hlt:t.length<f:=by simpa using hf
    have up:∀ {n k:Nat} {l2:List Tk},l2.length≤l.length+1→1≤k→EndT (l2.length+((c :: t).drop k).length+1) l'→EndT (l.length+(c :: t).length+1) l':=by
      rintro n k l2 h1 h2 ⟨m,z,e1,e2,e3,e4⟩;refine ⟨m,z,e1,e2,e3,?_⟩;rw [List.length_drop] at e4;simp only [List.length_cons] at e4 ⊢;omega
    have up1:∀ {l2:List Tk},l2.length≤l.length+1→EndT (l2.length+t.length+1) l'→EndT (l.length+(c :: t).length+1) l':=by
      rintro l2 h1 ⟨m,z,e1,e2,e3,e4⟩;exact ⟨m,z,e1,e2,e3,by simp only [List.length_cons];omega⟩
    (have hap:∀ z:Tk,(l ++ [z]).length≤l.length+1:=fun z=>by simp);unfold scanL at h;split at h
    · exact up1 (line_le p l) (scan_end f t _ _ hlt (line_n7 hl) h)
    split at h
    · exact up1 (Nat.le_succ _) (scan_end f t _ _ hlt hl h)
    split at h
    · rename_i h47
      cases hr:remR (c :: t) with
      | none=>rw [hr] at h;cases h
      | some n=>
        rw [hr] at h;simp only at h;have hb:=(remR_bd hr ⟨t,by rw [h47.1]⟩).1;by_cases h3:0≤Lib.indexByte ((c :: t).take n) 10
        · rw [if_pos h3] at h
          exact up (n:=0) (line_le p l) hb (scan_end f _ _ _ (drop_lt hb hf) (line_n7 hl) h)
        · rw [if_neg h3] at h
          exact up (n:=0) (Nat.le_succ _) hb (scan_end f _ _ _ (drop_lt hb hf) hl h)
    split at h
    · cases h
    split at h
    · rename_i hn
      exact up (n:=0) (hap _) hn (scan_end f _ _ _ (drop_lt hn hf) (app_n7 hl (fun e=>by have e:(if wordB (bs ((c :: t).take (nameL (c :: t))))=true then (4:Int) else 1)=7:=e;split at e <;> revert e <;> decide)) h)
    split at h
    · rename_i hd
      cases hr:numR (c :: t) with
      | none=>rw [hr] at h;cases h
      | some n=>
        rw [hr] at h;simp only at h;have hb:=(numR_bd hr hd).1;exact up (n:=0) (hap _) hb (scan_end f _ _ _ (drop_lt hb hf) (app_n7 hl (fun e=>absurd (show (2:Int)=7 from e) (by decide))) h)
    split at h
    · cases hr:textR p t (p+1) [] with
      | error e=>rw [hr] at h;cases h
      | ok qt=>
        obtain ⟨q,tx⟩:=qt;rw [hr] at h;simp only at h;(have hb:1≤q - p:=by have:=textR_bd t (p+1) [] hr;omega);exact up (n:=0) (hap _) hb (scan_end f _ _ _ (drop_lt hb hf) (app_n7 hl (fun e=>absurd (show (3:Int)=7 from e) (by decide))) h)
    split at h
    · exact up1 (hap _) (scan_end f t _ _ hlt (app_n7 hl (fun e=>absurd (show (6:Int)=7 from e) (by decide))) h)
    split at h
    · cases h
    · rename_i hs
      have hb:1≤signL (bs (c :: t)):=Nat.one_le_iff_ne_zero.2 hs;exact up (n:=0) (hap _) hb (scan_end f _ _ _ (drop_lt hb hf) (app_n7 hl (fun e=>absurd (show (5:Int)=7 from e) (by decide))) h)
theorem EndT.wt {n:Nat} {l:List Tk} (h:EndT n l):WT l∧Str.WT l∧0<l.length∧l.length≤n+1:=by
  obtain ⟨m,z,rfl,h1,h2,h3⟩:=h
  have key:∀ i,i<(m ++ [z]).length→(tokAt (m ++ [z]) i).k≠7→i+1<(m ++ [z]).length:=by
    intro i hi hk;rw [List.length_append,List.length_singleton] at hi ⊢;rcases Nat.lt_or_ge i m.length with h | h
    · omega
    · exfalso
      apply hk;(have:i=m.length:=by omega);subst this;unfold tokAt;simp [h1]
  exact ⟨⟨key⟩,⟨key⟩,by simp,by simpa using h3⟩
theorem scanM_end {s:ByteArray} {l:List Tk} (h:scanM s = .ok l):s.size≤65536∧EndT (s.size+1) l:=by
  unfold scanM at h;split at h
  · cases h
  · rename_i hn
    cases hq:scanL (s.size+1) s.data.toList 0 [] with
    | error p=>rw [hq] at h;cases h
    | ok l2=>
      rw [hq] at h;cases h;(have hlen:s.data.toList.length=s.size:=by rw [Array.length_toList];rfl);have:=scan_end _ _ _ _ (by omega) (by simp) hq;rw [hlen] at this;exact ⟨by by_cases h:65536<s.size;exact absurd (.inl h) hn;omega,by simpa using this⟩
set_option maxRecDepth 100000
set_option maxHeartbeats 4000000
theorem tassertP (v:Value) (w:World):(Instr.typeAssert (.iface 63 v) 20 63 true).run Tryz.prog w = .ok (.tuple #[v,.bool true]) w:=by kernel_rfl
section
variable {w:World} {A B:Nat}
def zeroNo:Array Value:=#[.int .i64 0,.int .i64 0,.int .i64 0,.string ⟨#[]⟩,.slice none 0 0]
def CaughtP (w:World) (a b:Nat) (pv:Int) (w':World):Prop:=Blk w' a 25 zeroNo∧Blk w' b 27 #[.int .i64 4,.string ⟨#[]⟩,.int .i64 pv]∧But (fun k=>k=a∨k=b) w w'
theorem catch_p {a b:Nat} {pv:Int} {c0 c1 c2 c3 c4 d0 d1 d2:Value} (ha:Blk w a 25 #[c0,c1,c2,c3,c4]) (hb:Blk w b 27 #[d0,d1,d2]) (hab:a≠b) :
    CallsD Tryz.prog 32 #[.pointer (some ⟨a,0,none⟩),.pointer (some ⟨b,0,none⟩)] (.panicking (badC pv)) w fun e u' w'=>
      e = .returned (.tuple #[])∧u' = .panicking [{ v:=faultV pv,recovered:=true }]∧CaughtP w a b pv w':=by
  unfold badC faultV;refine callsD_of_wpS Tryz.func32 rfl fun c₀ cs hu=>?_;apply wpS_seq;apply wpS_region;simp [wpOpsS,go_sem,recoverD,hu,Tryz.ntmps32,Exit.thenS];apply wpS_seq;apply wpS_region;simp [wpOpsS,go_sem,Exit.thenS];refine wpS_cond (t:=true) (by simp [Act.eval,Array.replicate]) ?_;simp only [if_true];refine wpS_of_wp ?_;have HA:=zh ha;have HB:=zh hb;have qa0:=ha.cell 0;have qa1:=ha.cell 1;have qa2:=ha.cell 2;have qa3:=ha.cell 3;have qa4:=ha.cell 4;have qb0:=hb.cell 0;have qb1:=hb.cell 1;have qb2:=hb.cell 2;simp at qa0 qa1 qa2 qa3 qa4 qb0 qb1 qb2;have qaf:=ha.frozen;have qbf:=hb.frozen;have qal:=ha.lt;have qbl:=hb.lt;have hta:=tassertP;simp only [Array.replicate_succ,Array.replicate_zero,List.push_toArray,zl4,zl5,zl6,List.append_toArray,List.nil_append,List.cons_append];go_wp2_with fail;clear hta ha hb
  go_region
  all_goals
    go_wp2_with fail;refine ⟨rfl,_,rfl,_,results_none rfl _ _ _,rfl,rfl,?_,?_,?_⟩
    · exact (((((HA.out.put5 _ _ _ _ _).far1 hab _).far1 hab _).far1 hab _).alloc _).drew
    · exact (((((HB.out.far5 (Ne.symm hab) _ _ _ _ _).set_ 0 _).set_ 1 _).set_ 2 _).alloc _).drew
    · exact (((((((((zb.set1 (.inr (.inl rfl)) _).set1 (.inr (.inl rfl)) _).set1 (.inr (.inl rfl)) _).set1 (.inr (.inl rfl)) _).set1 (.inr (.inl rfl)) _).set1 (.inr (.inr rfl)) _).set1 (.inr (.inr rfl)) _).set1 (.inr (.inr rfl)) _).alloc _).drew
theorem catch_idleP {a b:Nat} :
    CallsD Tryz.prog 32 #[.pointer (some ⟨a,0,none⟩),.pointer (some ⟨b,0,none⟩)] .returning w fun e u' w'=>e = .returned (.tuple #[])∧u' = .returning∧w'=w:=by
  refine callsD_of_wpS Tryz.func32 rfl fun c₀ cs hu=>?_;apply wpS_seq;apply wpS_region;simp [wpOpsS,go_sem,recoverD,hu,Tryz.ntmps32,Exit.thenS];apply wpS_seq;apply wpS_region;simp [wpOpsS,go_sem,Exit.thenS];refine wpS_cond (t:=false) (by simp [Act.eval,Array.replicate]) ?_;simp only [Bool.false_eq_true,if_false];refine wpS_of_wp (wp_skip ?_);cases c₀
  simp_all [bodyPostS,results,Tryz.results32]
theorem res_rd {W:World} {a b:Nat} {c0 c1 c2 c3 c4 d0 d1 d2 x0 x1 x2 x3 x6 x7 x8 x9 x10 x11 x12 x13 x14 x15 x16 x17 x18 x19 x20 x21 x22 x23 x24 x25 x26 x27 x28 x29:Value} (h:Blk W a 25 #[c0,c1,c2,c3,c4]) (h':Blk W b 27 #[d0,d1,d2]) :
    (results Tryz.f19 #[x0,x1,x2,x3,.pointer (some ⟨a,0,none⟩),.pointer (some ⟨b,0,none⟩),x6,x7,x8,x9,x10,x11,x12,x13,x14,x15,x16,x17,x18,x19,x20,x21,x22,x23,x24,x25,x26,x27,x28,x29]).run Tryz.prog W = .ok (.tuple #[.agg #[c0,c1,c2,c3,c4],.agg #[d0,d1,d2]]) W:=by
  have c0':=h.cell 0;have c1':=h.cell 1;have c2':=h.cell 2;have c3':=h.cell 3;have c4':=h.cell 4;have c30:=h'.cell 0;have c31:=h'.cell 1;have c32:=h'.cell 2;simp at c0' c1' c2' c3' c4' c30 c31 c32;simp [results,Tryz.results19,go_sem,c0',c1',c2',c3',c4',c30,c31,c32]
def readM (x:List Tk→PM No) (s:ByteArray):Option (Except (Int×Int) No):=
  match scanM s with
  | .error cp=>some (.error cp)
  | .ok ts=>match x ts (0,false) with
    | none=>none
    | some (.error p)=>some (.error (4,p))
    | some (.ok (n,_))=>some (if (200:Int)<depW n then .error (5,0) else .ok n)
def RdRes (w:World) (r:Except (Int×Int) No) (e:Ending) (w':World):Prop:=
  Below w.heap.size w w'∧match r with
  | .error (c,p)=>e = .returned (.tuple #[.agg zeroNo,.agg #[.int .i64 c,.string ⟨#[]⟩,.int .i64 p]])
  | .ok n=>∃ A c,e = .returned (.tuple #[.agg #[.int .i64 n.k,.int .i64 n.fr,.int .i64 n.to,.string n.tx,.slice A n.ks.length c],.agg #[.int .i64 0,.string ⟨#[]⟩,.int .i64 0]])∧RowN w' (New w w') (.slice A n.ks.length c) n.ks
theorem scanM_code {s:ByteArray} {c p:Int} (h:scanM s = .error (c,p)):c=2∨c=3:=by
  unfold scanM at h;split at h
  · cases h;exact .inl rfl
  · cases hq:scanL (s.size+1) s.data.toList 0 [] with
    | error p=>rw [hq] at h;cases h;exact .inr rfl
    | ok l=>rw [hq] at h;cases h
theorem read_calls {s:ByteArray} {x:List Tk→PM No} {n:Nat} {cap:Array Value} (hs:s.size≤140737488355328) (hT:Lib.Utf8Tabs 0 1 w) (h3:3≤w.heap.size) {mm:Int} (hmx:w.cell? ⟨2,0,none⟩=some (.int .i64 mm))
    (hent:∀ w v,(callFunc n (#[v] ++ cap)).run Tryz.prog w = .ok (.enter n (#[v] ++ cap)) w)
    (hc:∀ (E:Env) (W:World) r,EOk E→Str.WT E.ts→Below w.heap.size w W→x E.ts (0,false)=some r→PS E W 0 false→Calls Tryz.prog n (#[.pointer (some ⟨E.g,0,none⟩)] ++ cap) W (Post E noX W (NoV W) r))
    {r:Except (Int×Int) No} (hr:readM x s=some r) :
    Calls Tryz.prog 19 #[.string s,.func (.func n) #[] cap] w (RdRes w r):=by
  have hmf:∀ (fn:Fn) (first cap:Array Value) (w:World),(Instr.makeFunc fn first cap).run Tryz.prog w = .ok (.func fn first cap) w:=fun _ _ _ _=>rfl;have HR:=zh hr;have HT:=zh hT;have HMX:=zh hmx;have HC:=zh hc;clear hr hT hmx hc
  go_enter_defers Tryz.func19,Tryz.ntmps19
  go_wp2_with fail;have hb0:Below w.heap.size w ((w.alloc (.cells zeroNo 25)).alloc (.cells #[.int .i64 0,.string ⟨#[]⟩,.int .i64 0] 27)):=((Below.refl _ _).alloc (Nat.le_refl _) _).alloc (by simp) _;refine (tokens_calls hs (Utf8Tabs_below HT.out hb0) (by simp;omega) (mm:=mm) (by refine Eq.trans (hb0.cell (p:=⟨2,0,none⟩) (by show 2<_;omega)) HMX.out)).mono ?_;rintro e w1 ⟨hb1,hr1⟩;have kb:Hid (Below w.heap.size w w1):=zh (hb0.trans (hb1.mono (by simp;omega)));have hbN:Hid (Blk w1 w.heap.size 25 zeroNo):=zh ((Blk.alloc (Blk.new _ _ _) _).below hb1 (by simp;omega));have hbF:Hid (Blk w1 (w.heap.size+1) 27 #[.int .i64 0,.string ⟨#[]⟩,.int .i64 0]):=zh ((Blk.new' (by simp)).below hb1 (by simp));(have hsz1:w.heap.size+2≤w1.heap.size:=by have:=hb1.size;simp at this;omega);(have hl2:w.heap.size<w1.heap.size:=by omega);(have hl3:w.heap.size+1<w1.heap.size:=by omega);have hn0:=hbN.out.cell 0;have hn1:=hbN.out.cell 1;have hn2:=hbN.out.cell 2;have hn3:=hbN.out.cell 3;have hn4:=hbN.out.cell 4;have hfN:=hbN.out.frozen;have hc0:=hbF.out.cell 0;have hc1:=hbF.out.cell 1;have hc2:=hbF.out.cell 2;have hfF:=hbF.out.frozen;simp [zeroNo] at hn0 hn1 hn2 hn3 hn4;simp at hc0 hc1 hc2;have HR1:=zh hr1;clear hb0 hb1 hr1;obtain ⟨rs,hrs⟩:∃ rs,scanM s=rs:=⟨_,rfl⟩;have HRS:=zh hrs;clear hrs;cases rs with
  | error cp=>
    obtain ⟨c,p⟩:=cp;have h1:=HR1.out;rw [HRS.out] at h1;obtain rfl:=h1;(obtain rfl:r = .error (c,p):=by have h2:=HR.out;unfold readM at h2;rw [HRS.out] at h2;exact (Option.some.inj h2).symm);have hcc:=scanM_code HRS.out;clear HR1;rcases hcc with rfl | rfl
    all_goals
      go_wp2_with fail
      go_region
      all_goals
        go_wp2_with fail;refine ⟨_,res_rd (((((((hbN.out.far1 (by omega) _).far1 (by omega) _).far1 (by omega) _).put5 _ _ _ _ _).far1 (by omega) _).far1 (by omega) _).far1 (by omega) _).drew (((((((hbF.out.set_ 0 _).set_ 1 _).set_ 2 _).far5 (by omega) _ _ _ _ _).set_ 0 _).set_ 1 _).set_ 2 _).drew,?_⟩;exact ⟨(((((((((((kb.out.setCell (by simp) _).setCell (by simp) _).setCell (by simp) _).setCell (by simp) _).setCell (by simp) _).setCell (by simp) _).setCell (by simp) _).setCell (by simp) _).setCell (by simp) _).setCell (by simp) _).setCell (by simp) _).drew,rfl⟩
  | ok l=>
    have h1:=HR1.out;rw [HRS.out] at h1;obtain ⟨A,c,rfl,how⟩:=h1;obtain ⟨hsz,hend⟩:=scanM_end HRS.out;obtain ⟨hwt,hwt',hl0,hle⟩:=hend.wt;clear HR1 hend
    have hcap:l.length≤c∧∃ a,A=some ⟨a,0,none⟩∧a<w1.heap.size:=by
      obtain ⟨a,c',hv,-,h4⟩:=how.form hl0;cases hv;rcases how.2 with ⟨h5,h6⟩ | ⟨g,cap',cur,hv,-,-,h6,-⟩
      · omega
      · cases hv
        exact ⟨h6,a,rfl,h4⟩
    obtain ⟨hcap,a,rfl,hal⟩:=hcap;have HOW:=zh how;clear how;go_wp2_with fail;obtain ⟨E,hEd⟩:∃ E:Env,E=⟨w1.heap.size,a,0,c,l⟩:=⟨_,rfl⟩;(have hEg:E.g=w1.heap.size:=by rw [hEd]);(have hEt:E.ts=l:=by rw [hEd]);have hOk:EOk E:=by subst hEd;exact ⟨hwt,by show l.length≤1000000;omega,hcap⟩
    have hPS:PS E ((((w1.setCell ⟨w.heap.size+1,0,none⟩ (.int .i64 0)).setCell ⟨w.heap.size+1,1,none⟩ (.string ⟨#[]⟩)).setCell ⟨w.heap.size+1,2,none⟩ (.int .i64 0)).alloc (.cells #[.slice (some ⟨a,0,none⟩) l.length c,.int .i64 0,.bool false] 66)) 0 false:=by
      subst hEd;refine ⟨Blk.new' (by simp),fun j hj=>?_,by show a≠w1.heap.size;omega,by show a<_;simp;omega,hl0⟩;have h5:=(own_tok ((ownsRow_setCell_below (ownsRow_setCell_below (ownsRow_setCell_below HOW.out (a:=⟨w.heap.size+1,0,none⟩) (by simp) (.int .i64 0)) (a:=⟨w.heap.size+1,1,none⟩) (by simp) (.string ⟨#[]⟩)) (a:=⟨w.heap.size+1,2,none⟩) (by simp) (.int .i64 0)).alloc (.cells #[.slice (some ⟨a,0,none⟩) l.length c,.int .i64 0,.bool false] 66)) hj);have h6:tokAt l j=l[j]:=by have hj':j<l.length:=hj;simp [tokAt,hj']
      simpa [Env.tok,h6] using h5
    have hBW:Below w.heap.size w ((((w1.setCell ⟨w.heap.size+1,0,none⟩ (.int .i64 0)).setCell ⟨w.heap.size+1,1,none⟩ (.string ⟨#[]⟩)).setCell ⟨w.heap.size+1,2,none⟩ (.int .i64 0)).alloc (.cells #[.slice (some ⟨a,0,none⟩) l.length c,.int .i64 0,.bool false] 66)):=(((kb.out.setCell (by simp) _).setCell (by simp) _).setCell (by simp) _).alloc (by simp;omega) _;have hNW:Blk ((((w1.setCell ⟨w.heap.size+1,0,none⟩ (.int .i64 0)).setCell ⟨w.heap.size+1,1,none⟩ (.string ⟨#[]⟩)).setCell ⟨w.heap.size+1,2,none⟩ (.int .i64 0)).alloc (.cells #[.slice (some ⟨a,0,none⟩) l.length c,.int .i64 0,.bool false] 66)) w.heap.size 25 zeroNo:=(((hbN.out.far1 (by omega) _).far1 (by omega) _).far1 (by omega) _).alloc _;have hFW:Blk ((((w1.setCell ⟨w.heap.size+1,0,none⟩ (.int .i64 0)).setCell ⟨w.heap.size+1,1,none⟩ (.string ⟨#[]⟩)).setCell ⟨w.heap.size+1,2,none⟩ (.int .i64 0)).alloc (.cells #[.slice (some ⟨a,0,none⟩) l.length c,.int .i64 0,.bool false] 66)) (w.heap.size+1) 27 #[.int .i64 0,.string ⟨#[]⟩,.int .i64 0]:=(((hbF.out.set_ 0 _).set_ 1 _).set_ 2 _).alloc _;have hWs:((((w1.setCell ⟨w.heap.size+1,0,none⟩ (.int .i64 0)).setCell ⟨w.heap.size+1,1,none⟩ (.string ⟨#[]⟩)).setCell ⟨w.heap.size+1,2,none⟩ (.int .i64 0)).alloc (.cells #[.slice (some ⟨a,0,none⟩) l.length c,.int .i64 0,.bool false] 66)).heap.size=w1.heap.size+1:=by simp
    generalize hW:((((w1.setCell ⟨w.heap.size+1,0,none⟩ (.int .i64 0)).setCell ⟨w.heap.size+1,1,none⟩ (.string ⟨#[]⟩)).setCell ⟨w.heap.size+1,2,none⟩ (.int .i64 0)).alloc (.cells #[.slice (some ⟨a,0,none⟩) l.length c,.int .i64 0,.bool false] 66))=W at hPS hBW hNW hFW hWs
    (try rw [hW])
    clear hW
    obtain ⟨rx,hrx,hrr⟩:∃ rx,x l (0,false)=some rx∧r=(match rx with | .error p=>.error (4,p) | .ok (n,_)=>if (200:Int)<depW n then .error (5,0) else .ok n):=by
      have h2:=HR.out;unfold readM at h2;rw [HRS.out] at h2;simp only at h2;cases hx:x l (0,false) with
      | none=>rw [hx] at h2;cases h2
      | some rx=>
        rw [hx] at h2;refine ⟨rx,rfl,?_⟩;cases rx with
        | error p=>exact (Option.some.inj h2).symm
        | ok ns=>exact (Option.some.inj h2).symm
    have hgo:=HC.out E W rx hOk (hEt ▸ hwt') hBW (hEt ▸ hrx) hPS;rw [hEg] at hgo;refine hgo.mono ?_;rintro e w2 hp;clear hgo;have hbut:=hp.1;have hN2:Blk w2 w.heap.size 25 zeroNo:=hNW.but hbut (fun h=>h.elim (fun h=>by omega) id);have hF2:Blk w2 (w.heap.size+1) 27 #[.int .i64 0,.string ⟨#[]⟩,.int .i64 0]:=hFW.but hbut (fun h=>h.elim (fun h=>by omega) id);have hB2:Below w.heap.size w w2:=hBW.trans (hbut.below (fun i _ h=>h.elim (fun h=>by omega) False.elim) (by omega));have hs2:=hbut.size;cases rx with
    | error p=>
      obtain ⟨-,rfl⟩:=hp;simp only at hrr;subst hrr;refine leaves_cons (f:=32) (args:=#[.pointer (some ⟨w.heap.size,0,none⟩),.pointer (some ⟨w.heap.size+1,0,none⟩)]) (by simp) (by simp [go_sem]) ?_;refine (catch_p hN2 hF2 (by omega)).mono ?_;rintro e u' w4 ⟨rfl,rfl,hg1,hg2,hg3⟩;refine ⟨_,res_rd hg1 hg2,?_⟩;exact ⟨hB2.trans (hg3.below (fun i _ h=>by rcases h with rfl | rfl <;> omega) (by omega)),rfl⟩
    | ok ns=>
      obtain ⟨n1,s1⟩:=ns;obtain ⟨-,-,v,rfl,A',c',rfl,hrow⟩:=hp;simp only at hrr;have q0:=hN2.cell 0;have q1:=hN2.cell 1;have q2:=hN2.cell 2;have q3:=hN2.cell 3;have q4:=hN2.cell 4;have qf:=hN2.frozen;have ql:=hN2.lt;simp [zeroNo] at q0 q1 q2 q3 q4;have HN2:=zh hN2;have HF2:=zh hF2;have HB2:=zh hB2;have HROW:=zh hrow;have HRR:=zh hrr;clear hN2 hF2 hB2 hrow hrr hbut hNW hFW hBW hPS hOk hrx;go_wp2_with fail;have hN3:Blk (((((w2.setCell ⟨w.heap.size,0,none⟩ (.int .i64 n1.k)).setCell ⟨w.heap.size,1,none⟩ (.int .i64 n1.fr)).setCell ⟨w.heap.size,2,none⟩ (.int .i64 n1.to)).setCell ⟨w.heap.size,3,none⟩ (.string n1.tx)).setCell ⟨w.heap.size,4,none⟩ (.slice A' n1.ks.length c')) w.heap.size 25 #[.int .i64 n1.k,.int .i64 n1.fr,.int .i64 n1.to,.string n1.tx,.slice A' n1.ks.length c']:=HN2.out.put5 _ _ _ _ _;have hF3:Blk (((((w2.setCell ⟨w.heap.size,0,none⟩ (.int .i64 n1.k)).setCell ⟨w.heap.size,1,none⟩ (.int .i64 n1.fr)).setCell ⟨w.heap.size,2,none⟩ (.int .i64 n1.to)).setCell ⟨w.heap.size,3,none⟩ (.string n1.tx)).setCell ⟨w.heap.size,4,none⟩ (.slice A' n1.ks.length c')) (w.heap.size+1) 27 #[.int .i64 0,.string ⟨#[]⟩,.int .i64 0]:=HF2.out.far5 (by omega) _ _ _ _ _;have hB3:Below w.heap.size w (((((w2.setCell ⟨w.heap.size,0,none⟩ (.int .i64 n1.k)).setCell ⟨w.heap.size,1,none⟩ (.int .i64 n1.fr)).setCell ⟨w.heap.size,2,none⟩ (.int .i64 n1.to)).setCell ⟨w.heap.size,3,none⟩ (.string n1.tx)).setCell ⟨w.heap.size,4,none⟩ (.slice A' n1.ks.length c')):=(((((HB2.out.setCell (by simp) _).setCell (by simp) _).setCell (by simp) _).setCell (by simp) _).setCell (by simp) _)
      have hR3:RowN (((((w2.setCell ⟨w.heap.size,0,none⟩ (.int .i64 n1.k)).setCell ⟨w.heap.size,1,none⟩ (.int .i64 n1.fr)).setCell ⟨w.heap.size,2,none⟩ (.int .i64 n1.to)).setCell ⟨w.heap.size,3,none⟩ (.string n1.tx)).setCell ⟨w.heap.size,4,none⟩ (.slice A' n1.ks.length c')) (fun b=>w.heap.size+1<b∧b<w2.heap.size) (.slice A' n1.ks.length c') n1.ks:=HROW.out.keep (fun b hb=>by
        have hne:b≠w.heap.size:=by have:=hb.1;omega
        repeat rw [Below.heap_setCell _ _ _ b hne]) (fun b hb=>⟨by have:=hb.1;omega,hb.2⟩)
      have hs3:(((((w2.setCell ⟨w.heap.size,0,none⟩ (.int .i64 n1.k)).setCell ⟨w.heap.size,1,none⟩ (.int .i64 n1.fr)).setCell ⟨w.heap.size,2,none⟩ (.int .i64 n1.to)).setCell ⟨w.heap.size,3,none⟩ (.string n1.tx)).setCell ⟨w.heap.size,4,none⟩ (.slice A' n1.ks.length c')).heap.size=w2.heap.size:=by simp
      generalize hW3:(((((w2.setCell ⟨w.heap.size,0,none⟩ (.int .i64 n1.k)).setCell ⟨w.heap.size,1,none⟩ (.int .i64 n1.fr)).setCell ⟨w.heap.size,2,none⟩ (.int .i64 n1.to)).setCell ⟨w.heap.size,3,none⟩ (.string n1.tx)).setCell ⟨w.heap.size,4,none⟩ (.slice A' n1.ks.length c'))=W3 at hN3 hF3 hB3 hR3 hs3
      (try rw [hW3])
      clear hW3 q0 q1 q2 q3 q4 qf ql HROW HN2 HF2 HB2;refine (depth_calls (n:=n1) (cs:=[.int .i64 n1.k,.int .i64 n1.fr,.int .i64 n1.to,.string n1.tx,.slice A' n1.ks.length c']) (NoR.mk_ (hR3.keep zr (fun b hb=>by have:=hb.2;omega)))).mono ?_;rintro e w4 ⟨rfl,hb4⟩;have hN4:=hN3.below hb4 (by omega);have hF4:=hF3.below hb4 (by omega);have hB4:Below w.heap.size w w4:=hB3.trans (hb4.mono (by omega));have hs4:=hb4.size;have hR4:RowN w4 (fun b=>w.heap.size+1<b∧b<w2.heap.size) (.slice A' n1.ks.length c') n1.ks:=hR3.keep (fun b hb=>hb4.block b (by have:=hb.2;omega)) (fun b hb=>hb);have q0:=hN4.cell 0;have q1:=hN4.cell 1;have q2:=hN4.cell 2;have q3:=hN4.cell 3;have q4:=hN4.cell 4;have qf:=hN4.frozen;have ql:=hN4.lt;have d0:=hF4.cell 0;have d1:=hF4.cell 1;have d2:=hF4.cell 2;have df:=hF4.frozen;have dl:=hF4.lt;simp at q0 q1 q2 q3 q4 d0 d1 d2;have HN4:=zh hN4;have HF4:=zh hF4;have HB4:=zh hB4;have HR4:=zh hR4;clear hN3 hF3 hB3 hR3 hb4 hN4 hF4 hB4 hR4;by_cases hd:(200:Int)<depW n1
      · have hdd:decide ((200:Int)<depW n1)=true:=by simpa using hd
        have hrr:=HRR.out;rw [if_pos hd] at hrr;subst hrr;go_wp2_with fail;refine leaves_cons (f:=32) (args:=#[.pointer (some ⟨w.heap.size,0,none⟩),.pointer (some ⟨w.heap.size+1,0,none⟩)]) (by simp) (by simp [go_sem]) ?_;refine catch_idleP.mono ?_;rintro e u' w5 ⟨rfl,rfl,rfl⟩;refine ⟨_,res_rd ((((HN4.out.put5 _ _ _ _ _).far1 (by omega) _).far1 (by omega) _).far1 (by omega) _) ((((HF4.out.far5 (by omega) _ _ _ _ _).set_ 0 _).set_ 1 _).set_ 2 _),?_⟩;exact ⟨((((((((HB4.out.setCell (by simp) _).setCell (by simp) _).setCell (by simp) _).setCell (by simp) _).setCell (by simp) _).setCell (by simp) _).setCell (by simp) _).setCell (by simp) _),rfl⟩
      · have hdd:decide ((200:Int)<depW n1)=false:=by simpa using hd
        have hrr:=HRR.out;rw [if_neg hd] at hrr;subst hrr;go_wp2_with fail;refine leaves_cons (f:=32) (args:=#[.pointer (some ⟨w.heap.size,0,none⟩),.pointer (some ⟨w.heap.size+1,0,none⟩)]) (by simp) (by simp [go_sem]) ?_;refine catch_idleP.mono ?_;rintro e u' w5 ⟨rfl,rfl,rfl⟩;refine ⟨_,res_rd ((((HN4.out.put5 _ _ _ _ _).far1 (by omega) _).far1 (by omega) _).far1 (by omega) _) ((((HF4.out.far5 (by omega) _ _ _ _ _).set_ 0 _).set_ 1 _).set_ 2 _),?_⟩;refine ⟨((((((((HB4.out.setCell (by simp) _).setCell (by simp) _).setCell (by simp) _).setCell (by simp) _).setCell (by simp) _).setCell (by simp) _).setCell (by simp) _).setCell (by simp) _),A',c',rfl,HR4.out.keep (fun b hb=>?_) (fun b hb=>⟨by have:=hb.1;omega,by have:=hb.2;simp;omega⟩)⟩;(have h1:b≠w.heap.size:=by have:=hb.1;omega);(have h2:b≠w.heap.size+1:=by have:=hb.1;omega);(iterate 3 refine (Below.heap_setCell _ _ _ _ h2).trans ?_);(iterate 5 refine (Below.heap_setCell _ _ _ _ h1).trans ?_);rfl
end
set_option maxRecDepth 100000
set_option maxHeartbeats 4000000
def fileM (s:ByteArray):Option (Except (Int×Int) No):=readM (fun ts=>fileP ts (gr ts ts.length)) s
def valueM (s:ByteArray):Option (Except (Int×Int) No):=readM (fun ts=>aloneP ts (exprP ts (gr ts ts.length))) s
section
variable {w:World}
theorem res_fi {W:World} {a b:Nat} {c0 c1 c2 c3 c4 d0 d1 d2 x0 x1 x4 x5 x6 x7:Value} (h:Blk W a 25 #[c0,c1,c2,c3,c4]) (h':Blk W b 27 #[d0,d1,d2]) :
    (results Tryz.f16 #[x0,x1,.pointer (some ⟨a,0,none⟩),.pointer (some ⟨b,0,none⟩),x4,x5,x6,x7]).run Tryz.prog W = .ok (.tuple #[.agg #[c0,c1,c2,c3,c4],.agg #[d0,d1,d2]]) W:=by
  have c0':=h.cell 0;have c1':=h.cell 1;have c2':=h.cell 2;have c3':=h.cell 3;have c4':=h.cell 4;have c30:=h'.cell 0;have c31:=h'.cell 1;have c32:=h'.cell 2;simp at c0' c1' c2' c3' c4' c30 c31 c32;simp [results,Tryz.results16,go_sem,c0',c1',c2',c3',c4',c30,c31,c32]
theorem res_va {W:World} {a b:Nat} {c0 c1 c2 c3 c4 d0 d1 d2 x0 x1 x4 x5 x6 x7 x8:Value} (h:Blk W a 25 #[c0,c1,c2,c3,c4]) (h':Blk W b 27 #[d0,d1,d2]) :
    (results Tryz.f10 #[x0,x1,.pointer (some ⟨a,0,none⟩),.pointer (some ⟨b,0,none⟩),x4,x5,x6,x7,x8]).run Tryz.prog W = .ok (.tuple #[.agg #[c0,c1,c2,c3,c4],.agg #[d0,d1,d2]]) W:=by
  have c0':=h.cell 0;have c1':=h.cell 1;have c2':=h.cell 2;have c3':=h.cell 3;have c4':=h.cell 4;have c30:=h'.cell 0;have c31:=h'.cell 1;have c32:=h'.cell 2;simp at c0' c1' c2' c3' c4' c30 c31 c32;simp [results,Tryz.results10,go_sem,c0',c1',c2',c3',c4',c30,c31,c32]
theorem ent29 (w:World) (v:Value):(callFunc 29 (#[v] ++ #[])).run Tryz.prog w = .ok (.enter 29 (#[v] ++ #[])) w:=by kernel_rfl
theorem ent21 (w:World) (v:Value):(callFunc 21 #[v]).run Tryz.prog w = .ok (.enter 21 #[v]) w:=by kernel_rfl
theorem ent34 (w:World) (v u:Value):(callFunc 34 (#[v] ++ #[u])).run Tryz.prog w = .ok (.enter 34 (#[v] ++ #[u])) w:=by kernel_rfl
theorem alone_calls {n:Nat}:Calls Tryz.prog 20 #[.func (.func n) #[] #[]] w fun e w'=>∃ wb,w.heap.size≤wb∧e = .returned (.func (.func 34) #[] #[.pointer (some ⟨wb,0,none⟩)])∧Blk w' wb 46 #[.func (.func n) #[] #[]]∧Below w.heap.size w w':=by
  have hmf:∀ (fn:Fn) (first cap:Array Value) (w:World),(Instr.makeFunc fn first cap).run Tryz.prog w = .ok (.func fn first cap) w:=fun _ _ _ _=>rfl;go_enter Tryz.func20,Tryz.ntmps20;go_wp2_with fail;go_ret;exact ⟨_,Nat.le_refl _,rfl,Blk.new _ _ _,(Below.refl _ _).alloc (Nat.le_refl _) _⟩
theorem file_reads {s:ByteArray} (hs:s.size≤140737488355328) (hT:Lib.Utf8Tabs 0 1 w) (h3:3≤w.heap.size) {mm:Int} (hmx:w.cell? ⟨2,0,none⟩=some (.int .i64 mm)) {r:Except (Int×Int) No} (hr:fileM s=some r) :
    Calls Tryz.prog 16 #[.string s] w (RdRes w r):=by
  have HT:=zh hT;have HMX:=zh hmx;have HR:=zh hr;clear hT hmx hr;go_enter Tryz.func16,Tryz.ntmps16;go_wp2_with fail;have hB0:Below w.heap.size w ((w.alloc (.cells zeroNo 25)).alloc (.cells #[.int .i64 0,.string ⟨#[]⟩,.int .i64 0] 27)):=((Below.refl _ _).alloc (Nat.le_refl _) _).alloc (by simp) _;have hN0:Blk ((w.alloc (.cells zeroNo 25)).alloc (.cells #[.int .i64 0,.string ⟨#[]⟩,.int .i64 0] 27)) w.heap.size 25 zeroNo:=(Blk.new _ _ _).alloc _;have hF0:Blk ((w.alloc (.cells zeroNo 25)).alloc (.cells #[.int .i64 0,.string ⟨#[]⟩,.int .i64 0] 27)) (w.heap.size+1) 27 #[.int .i64 0,.string ⟨#[]⟩,.int .i64 0]:=Blk.new' (by simp);have hZ0:((w.alloc (.cells zeroNo 25)).alloc (.cells #[.int .i64 0,.string ⟨#[]⟩,.int .i64 0] 27)).heap.size=w.heap.size+2:=by simp
  generalize hW0:((w.alloc (.cells zeroNo 25)).alloc (.cells #[.int .i64 0,.string ⟨#[]⟩,.int .i64 0] 27))=W0 at hB0 hN0 hF0 hZ0
  (try rw [hW0])
  (try (unfold zeroNo at hW0;rw [hW0]))
  clear hW0;refine (read_calls (n:=29) (cap:=#[]) hs (Utf8Tabs_below HT.out hB0) (by omega) (mm:=mm) (by refine Eq.trans (hB0.cell (p:=⟨2,0,none⟩) (by show 2<_;omega)) HMX.out) ent29 (fun E W r hO hw hb hx hP=>file_calls hO (gr_fin hO.wt _ 0) (okG hO _) (Nat.le_refl 0) hx hP) HR.out).mono ?_;rintro e w1 ⟨hb1,hr1⟩;have kb:Hid (Below w.heap.size w w1):=zh (hB0.trans (hb1.mono (by omega)));have hbN:Hid (Blk w1 w.heap.size 25 zeroNo):=zh (hN0.below hb1 (by omega));have hbF:Hid (Blk w1 (w.heap.size+1) 27 #[.int .i64 0,.string ⟨#[]⟩,.int .i64 0]):=zh (hF0.below hb1 (by omega));have hl2:=hbN.out.lt;have hl3:=hbF.out.lt;have hn0:=hbN.out.cell 0;have hn1:=hbN.out.cell 1;have hn2:=hbN.out.cell 2;have hn3:=hbN.out.cell 3;have hn4:=hbN.out.cell 4;have hfN:=hbN.out.frozen;have hc0:=hbF.out.cell 0;have hc1:=hbF.out.cell 1;have hc2:=hbF.out.cell 2;have hfF:=hbF.out.frozen;simp [zeroNo] at hn0 hn1 hn2 hn3 hn4;simp at hc0 hc1 hc2;have hsz1:=hb1.size;clear hb1 hB0 hN0 hF0;cases r with
  | error cp=>
    obtain ⟨c,p⟩:=cp;obtain rfl:=hr1;unfold zeroNo;go_wp2_with fail;refine bodyPost_ret (res_fi ((((hbN.out.put5 _ _ _ _ _).far1 (by omega) _).far1 (by omega) _).far1 (by omega) _) ((((hbF.out.far5 (by omega) _ _ _ _ _).set_ 0 _).set_ 1 _).set_ 2 _)) rfl ?_;exact ⟨((((((((kb.out.setCell (by simp) _).setCell (by simp) _).setCell (by simp) _).setCell (by simp) _).setCell (by simp) _).setCell (by simp) _).setCell (by simp) _).setCell (by simp) _),rfl⟩
  | ok n1=>
    obtain ⟨A',c',rfl,hrow⟩:=hr1;have HROW:=zh hrow;clear hrow;go_wp2_with fail;refine bodyPost_ret (res_fi ((((hbN.out.put5 _ _ _ _ _).far1 (by omega) _).far1 (by omega) _).far1 (by omega) _) ((((hbF.out.far5 (by omega) _ _ _ _ _).set_ 0 _).set_ 1 _).set_ 2 _)) rfl ?_;refine ⟨((((((((kb.out.setCell (by simp) _).setCell (by simp) _).setCell (by simp) _).setCell (by simp) _).setCell (by simp) _).setCell (by simp) _).setCell (by simp) _).setCell (by simp) _),A',c',rfl,HROW.out.keep (fun b hb=>?_) (fun b hb=>⟨by have:=hb.1;omega,by have:=hb.2;simp;omega⟩)⟩;(have h1:b≠w.heap.size:=by have:=hb.1;omega);(have h2:b≠w.heap.size+1:=by have:=hb.1;omega);(iterate 3 refine (Below.heap_setCell _ _ _ _ h2).trans ?_);(iterate 5 refine (Below.heap_setCell _ _ _ _ h1).trans ?_);rfl
theorem value_reads {s:ByteArray} (hs:s.size≤140737488355328) (hT:Lib.Utf8Tabs 0 1 w) (h3:3≤w.heap.size) {mm:Int} (hmx:w.cell? ⟨2,0,none⟩=some (.int .i64 mm)) {r:Except (Int×Int) No} (hr:valueM s=some r) :
    Calls Tryz.prog 10 #[.string s] w (RdRes w r):=by
  have HT:=zh hT;have HMX:=zh hmx;have HR:=zh hr;clear hT hmx hr;go_enter Tryz.func10,Tryz.ntmps10;go_wp2_with fail;have hB0:Below w.heap.size w ((w.alloc (.cells zeroNo 25)).alloc (.cells #[.int .i64 0,.string ⟨#[]⟩,.int .i64 0] 27)):=((Below.refl _ _).alloc (Nat.le_refl _) _).alloc (by simp) _;have hN0:Blk ((w.alloc (.cells zeroNo 25)).alloc (.cells #[.int .i64 0,.string ⟨#[]⟩,.int .i64 0] 27)) w.heap.size 25 zeroNo:=(Blk.new _ _ _).alloc _;have hF0:Blk ((w.alloc (.cells zeroNo 25)).alloc (.cells #[.int .i64 0,.string ⟨#[]⟩,.int .i64 0] 27)) (w.heap.size+1) 27 #[.int .i64 0,.string ⟨#[]⟩,.int .i64 0]:=Blk.new' (by simp);have hZ0:((w.alloc (.cells zeroNo 25)).alloc (.cells #[.int .i64 0,.string ⟨#[]⟩,.int .i64 0] 27)).heap.size=w.heap.size+2:=by simp
  generalize hW0:((w.alloc (.cells zeroNo 25)).alloc (.cells #[.int .i64 0,.string ⟨#[]⟩,.int .i64 0] 27))=W0 at hB0 hN0 hF0 hZ0
  (try rw [hW0])
  (try (unfold zeroNo at hW0;rw [hW0]))
  clear hW0;refine (alone_calls (n:=21)).mono ?_;rintro e w0 ⟨wb,hwb,rfl,hk,hB1⟩;have hB0:Below w.heap.size w w0:=hB0.trans (hB1.mono (by omega));have hN0:=hN0.below hB1 (by omega);have hF0:=hF0.below hB1 (by omega);have hZ1:=hB1.size;(have hZ0:w.heap.size+2≤w0.heap.size:=by omega);have HK:=zh hk;clear hk hB1 hZ1;go_wp2_with fail;refine (read_calls (n:=34) (cap:=#[.pointer (some ⟨wb,0,none⟩)]) hs (Utf8Tabs_below HT.out hB0) (by omega) (mm:=mm) (by refine Eq.trans (hB0.cell (p:=⟨2,0,none⟩) (by show 2<_;omega)) HMX.out) (fun w v=>ent34 w v _) (fun E W r hO hw hb hx hP=>alone1_calls hO (fun w=>ent21 w _) (fun w r hr hP=>expr_calls hO (gr_fin hO.wt _ 0) (okG hO _) (Nat.le_refl 0) hr hP) (expr_fin hO.wt (gr_fin hO.wt _ 0) (Nat.le_refl 0) hP.ilt) (HK.out.below hb HK.out.lt) hx hP) HR.out).mono ?_;rintro e w1 ⟨hb1,hr1⟩;have kb:Hid (Below w.heap.size w w1):=zh (hB0.trans (hb1.mono (by omega)));have hbN:Hid (Blk w1 w.heap.size 25 zeroNo):=zh (hN0.below hb1 (by omega));have hbF:Hid (Blk w1 (w.heap.size+1) 27 #[.int .i64 0,.string ⟨#[]⟩,.int .i64 0]):=zh (hF0.below hb1 (by omega));have hl2:=hbN.out.lt;have hl3:=hbF.out.lt;have hn0:=hbN.out.cell 0;have hn1:=hbN.out.cell 1;have hn2:=hbN.out.cell 2;have hn3:=hbN.out.cell 3;have hn4:=hbN.out.cell 4;have hfN:=hbN.out.frozen;have hc0:=hbF.out.cell 0;have hc1:=hbF.out.cell 1;have hc2:=hbF.out.cell 2;have hfF:=hbF.out.frozen;simp [zeroNo] at hn0 hn1 hn2 hn3 hn4;simp at hc0 hc1 hc2;have hsz1:=hb1.size;clear hb1 hB0 hN0 hF0;cases r with
  | error cp=>
    obtain ⟨c,p⟩:=cp;obtain rfl:=hr1;unfold zeroNo;go_wp2_with fail;refine bodyPost_ret (res_va ((((hbN.out.put5 _ _ _ _ _).far1 (by omega) _).far1 (by omega) _).far1 (by omega) _) ((((hbF.out.far5 (by omega) _ _ _ _ _).set_ 0 _).set_ 1 _).set_ 2 _)) rfl ?_;exact ⟨((((((((kb.out.setCell (by simp) _).setCell (by simp) _).setCell (by simp) _).setCell (by simp) _).setCell (by simp) _).setCell (by simp) _).setCell (by simp) _).setCell (by simp) _),rfl⟩
  | ok n1=>
    obtain ⟨A',c',rfl,hrow⟩:=hr1;have HROW:=zh hrow;clear hrow;go_wp2_with fail;refine bodyPost_ret (res_va ((((hbN.out.put5 _ _ _ _ _).far1 (by omega) _).far1 (by omega) _).far1 (by omega) _) ((((hbF.out.far5 (by omega) _ _ _ _ _).set_ 0 _).set_ 1 _).set_ 2 _)) rfl ?_;refine ⟨((((((((kb.out.setCell (by simp) _).setCell (by simp) _).setCell (by simp) _).setCell (by simp) _).setCell (by simp) _).setCell (by simp) _).setCell (by simp) _).setCell (by simp) _),A',c',rfl,HROW.out.keep (fun b hb=>?_) (fun b hb=>⟨by have:=hb.1;omega,by have:=hb.2;simp;omega⟩)⟩;(have h1:b≠w.heap.size:=by have:=hb.1;omega);(have h2:b≠w.heap.size+1:=by have:=hb.1;omega);(iterate 3 refine (Below.heap_setCell _ _ _ _ h2).trans ?_);(iterate 5 refine (Below.heap_setCell _ _ _ _ h1).trans ?_);rfl
end
/-! ### the text -/
def sgB:Nat→List UInt8
  | 0=>[124,124] | 1=>[38,38] | 2=>[61,61] | 3=>[60] | 4=>[43] | 5=>[45] | 6=>[42] | 7=>[47] | _=>[37]
def rkO:Nat→Nat
  | 0=>1 | 1=>2 | 2=>3 | 3=>3 | 4=>4 | 5=>4 | _=>5
theorem rkO_bd (o:Nat):1≤rkO o∧rkO o≤5:=by
  unfold rkO;split <;> decide
def bodyR:Nat→List Nat→List UInt8
  | _,[]=>[]
  | i,o :: os=>32 :: (sgB o ++ 32 :: 120 :: UInt8.ofNat (49+i) :: bodyR (i+1) os)
def txtR (os:List Nat):ByteArray:=bs (120 :: 48 :: bodyR 0 os)
theorem bodyR_app:∀ (os:List Nat) (i o:Nat),bodyR i (os ++ [o])=bodyR i os ++ 32 :: (sgB o ++ [32,120,UInt8.ofNat (49+(i+os.length))])
  | [],i,o=>by simp [bodyR]
  | p :: os,i,o=>by
    rw [List.cons_append,bodyR,bodyR,bodyR_app os (i+1) o];simp [show i+1+os.length=i+(os.length+1) by omega]
def kt (t:Tk):Int×ByteArray:=(t.k,t.tx)
def ktR:Nat→List Nat→List (Int×ByteArray)
  | _,[]=>[(6,⟨#[10]⟩),(7,⟨#[]⟩)]
  | i,o :: os=>(5,bs (sgB o)) :: (1,bs [120,UInt8.ofNat (49+i)]) :: ktR (i+1) os
theorem ext2 (l:List UInt8):(bs l).extract 0 2=bs (l.take 2):=ext_bs (s:=bs l) (p:=0) (n:=2)
theorem scan_sp {f p:Nat} {t:List UInt8} {l:List Tk}:scanL (f+1) (32 :: t) p l=scanL f t (p+1) l:=by
  rw [scanL,if_neg (by decide),if_pos (by decide)]
theorem scan_sg {f p:Nat} {r:List UInt8} {l:List Tk} (o:Nat) (ho:o<9):∃ a b,scanL (f+1) (sgB o ++ 32 :: r) p l=scanL f (32 :: r) (p+(sgB o).length) (l ++ [⟨5,a,b,bs (sgB o)⟩]):=by
  have key:∀ (c:UInt8) (t:List UInt8) (n:Nat),c≠10→¬ (c=32∨c=9∨c=13)→¬ (c=47∧(t.headD 0=47∨t.headD 0=42))→letU c=false→digU c=false→c≠34→c≠59→signL (bs (c :: t))=n→n≠0→
      scanL (f+1) (c :: t) p l=scanL f ((c :: t).drop n) (p+n) (l ++ [⟨5,p,p+n,bs ((c :: t).take n)⟩]):=by
    intro c t n h1 h2 h3 h4 h5 h6 h7 h8 h9;(have e:nameL (c :: t)=0:=by rw [nameL_cons,h4];rfl);rw [scanL,if_neg h1,if_neg h2,if_neg h3,e,if_neg (by decide),if_neg (by decide),if_neg (by rw [h5];decide),if_neg h6,if_neg h7,h8,if_neg h9]
  have sg:∀ (c d:UInt8) (t:List UInt8),c≠46→signL (bs (c :: d :: t))=if memB twosL (bs [c,d])=true then 2 else if 0≤Lib.indexByte onesL c then 1 else 0:=by
    intro c d t hc;(have h0:(bs (c :: d :: t)).data.toList=c :: d :: t:=by simp [bs]);unfold signL;rw [ext2,h0]
    have hp:Lib.hasPrefix (c :: d :: t) [46,46,46]=false:=by
      simp [Lib.hasPrefix,List.isPrefixOf,Ne.symm hc]
    rw [hp,if_neg (by decide)];rfl
  match o,ho with
  | 0,_=>exact ⟨_,_,key 124 (124 :: 32 :: r) 2 (by decide) (by decide) (fun h=>absurd h.1 (by decide)) (by decide) (by decide) (by decide) (by decide) (by rw [sg _ _ _ (by decide)];decide) (by decide)⟩
  | 1,_=>exact ⟨_,_,key 38 (38 :: 32 :: r) 2 (by decide) (by decide) (fun h=>absurd h.1 (by decide)) (by decide) (by decide) (by decide) (by decide) (by rw [sg _ _ _ (by decide)];decide) (by decide)⟩
  | 2,_=>exact ⟨_,_,key 61 (61 :: 32 :: r) 2 (by decide) (by decide) (fun h=>absurd h.1 (by decide)) (by decide) (by decide) (by decide) (by decide) (by rw [sg _ _ _ (by decide)];decide) (by decide)⟩
  | 3,_=>exact ⟨_,_,key 60 (32 :: r) 1 (by decide) (by decide) (fun h=>absurd h.1 (by decide)) (by decide) (by decide) (by decide) (by decide) (by rw [sg _ _ _ (by decide)];decide) (by decide)⟩
  | 4,_=>exact ⟨_,_,key 43 (32 :: r) 1 (by decide) (by decide) (fun h=>absurd h.1 (by decide)) (by decide) (by decide) (by decide) (by decide) (by rw [sg _ _ _ (by decide)];decide) (by decide)⟩
  | 5,_=>exact ⟨_,_,key 45 (32 :: r) 1 (by decide) (by decide) (fun h=>absurd h.1 (by decide)) (by decide) (by decide) (by decide) (by decide) (by rw [sg _ _ _ (by decide)];decide) (by decide)⟩
  | 6,_=>exact ⟨_,_,key 42 (32 :: r) 1 (by decide) (by decide) (fun h=>absurd h.1 (by decide)) (by decide) (by decide) (by decide) (by decide) (by rw [sg _ _ _ (by decide)];decide) (by decide)⟩
  | 7,_=>exact ⟨_,_,key 47 (32 :: r) 1 (by decide) (by decide) (fun h=>h.2.elim (fun h=>absurd (show (32:UInt8)=47 from h) (by decide)) fun h=>absurd (show (32:UInt8)=42 from h) (by decide)) (by decide) (by decide) (by decide) (by decide) (by rw [sg _ _ _ (by decide)];decide) (by decide)⟩
  | 8,_=>exact ⟨_,_,key 37 (32 :: r) 1 (by decide) (by decide) (fun h=>absurd h.1 (by decide)) (by decide) (by decide) (by decide) (by decide) (by rw [sg _ _ _ (by decide)];decide) (by decide)⟩
  | o+9,h=>omega
theorem scan_nm {f p:Nat} {d:UInt8} {r:List UInt8} {l:List Tk} (hd:digU d=true) (hr:r=[]∨∃ r',r=32 :: r'):∃ a b,scanL (f+1) (120 :: d :: r) p l=scanL f r (p+2) (l ++ [⟨1,a,b,bs [120,d]⟩]):=by
  have hn:nameU d=true:=by unfold nameU;rw [hd,Bool.or_true]
  have hL:nameL (120 :: d :: r)=2:=by
    rw [nameL_cons,if_pos (by decide),List.takeWhile_cons,if_pos hn];rcases hr with rfl | ⟨r',rfl⟩
    · rfl
    · rw [List.takeWhile_cons,if_neg (by decide)]
      rfl
  have hw:wordB (bs [120,d])=false:=by
    (have hd':d.toNat<58∧48≤d.toNat:=by unfold digU digitN at hd;simp at hd;omega);have he:∃ k,k<58∧48≤k∧d=UInt8.ofNat k:=⟨d.toNat,hd'.1,hd'.2,by simp⟩;obtain ⟨k,h1,h2,rfl⟩:=he;(have:∀ k,k<58→48≤k→wordB (bs [120,UInt8.ofNat k])=false:=by decide);exact this k h1 h2
  refine ⟨p,p+2,?_⟩;rw [scanL,if_neg (by decide),if_neg (by decide),if_neg (fun h=>absurd h.1 (by decide)),hL,if_neg (by decide),if_pos (by decide)];rw [show (120 :: d :: r).take 2=[120,d] from rfl,hw];rfl
theorem scan_body:∀ (os:List Nat) (i p f:Nat) (l:List Tk) (t:Tk),(∀ o ∈ os,o<9)→i+os.length≤8→(bodyR i os).length<f→l.getLast? = some t→t.k=1→∃ ts,scanL f (bodyR i os) p l = .ok (l ++ ts)∧ts.map kt=ktR i os
  | [],i,p,f+1,l,t,_,_,_,hl,hk=>by
    refine ⟨[⟨6,p,p,⟨#[10]⟩⟩,⟨7,p,p,⟨#[]⟩⟩],?_,rfl⟩
    show Except.ok (lineT p l ++ [⟨7,p,p,⟨#[]⟩⟩])=_
    have e:lineT p l=l ++ [⟨6,p,p,⟨#[10]⟩⟩]:=by
      unfold lineT;rw [hl];(have:endsT t=true:=by unfold endsT;rw [hk];rfl);simp only [this,if_pos]
    rw [e,List.append_assoc];rfl
  | o :: os,i,p,f,l,t,ho,hi,hf,hl,hk=>by
    rw [bodyR] at hf ⊢;simp only [List.length_cons,List.length_append] at hf hi;(have hsz:1≤(sgB o).length:=by unfold sgB;split <;> decide);obtain ⟨f,rfl⟩:∃ g,f=g+1+1+1+1:=⟨f - 4,by omega⟩;rw [scan_sp];obtain ⟨a,b,e⟩:=scan_sg (f:=f+1+1) (p:=p+1) (r:=120 :: UInt8.ofNat (49+i) :: bodyR (i+1) os) (l:=l) o (ho o (by simp));rw [e,scan_sp]
    have hd:digU (UInt8.ofNat (49+i))=true:=by
      (have:∀ i,i<8→digU (UInt8.ofNat (49+i))=true:=by decide);exact this i (by omega)
    obtain ⟨a',b',e'⟩:=scan_nm (f:=f) (p:=p+1+(sgB o).length+1) (r:=bodyR (i+1) os) (l:=l ++ [⟨5,a,b,bs (sgB o)⟩]) hd (by
      cases os with
      | nil=>exact .inl rfl
      | cons o' os=>exact .inr ⟨_,rfl⟩)
    rw [e'];obtain ⟨ts,h1,h2⟩:=scan_body os (i+1) (p+1+(sgB o).length+1+2) f (l ++ [⟨5,a,b,bs (sgB o)⟩] ++ [⟨1,a',b',bs [120,UInt8.ofNat (49+i)]⟩]) ⟨1,a',b',bs [120,UInt8.ofNat (49+i)]⟩ (fun x hx=>ho x (by simp [hx])) (by omega) (by omega) (by simp) rfl;refine ⟨⟨5,a,b,bs (sgB o)⟩ :: ⟨1,a',b',bs [120,UInt8.ofNat (49+i)]⟩ :: ts,?_,?_⟩
    · rw [h1]
      simp
    · rw [List.map_cons,List.map_cons,h2]
      rfl
theorem sgB_ok {o:Nat}:((sgB o).length=1∨(sgB o).length=2)∧∀ c ∈ sgB o,0<c.toNat∧c.toNat<128:=by
  unfold sgB;split <;> exact ⟨by decide,by decide⟩
theorem bodyR_ok:∀ (os:List Nat) (i:Nat),i+os.length≤8→(bodyR i os).length≤6 * os.length∧∀ c ∈ bodyR i os,0<c.toNat∧c.toNat<128
  | [],i,_=>by simp [bodyR]
  | o :: os,i,h=>by
    simp only [List.length_cons] at h;have h1:=bodyR_ok os (i+1) (by omega);have h2:=sgB_ok (o:=o);rw [bodyR];refine ⟨?_,fun c hc=>?_⟩
    · simp only [List.length_cons,List.length_append]
      have:=h1.1;rcases h2.1 with h | h <;> omega
    · have hd:0<(UInt8.ofNat (49+i)).toNat∧(UInt8.ofNat (49+i)).toNat<128:=by
        (have:∀ i,i<8→0<(UInt8.ofNat (49+i)).toNat∧(UInt8.ofNat (49+i)).toNat<128:=by decide);exact this i (by omega)
      simp only [List.mem_cons,List.mem_append] at hc;rcases hc with rfl | hc | rfl | rfl | rfl | hc
      · decide
      · exact h2.2 c hc
      · decide
      · decide
      · exact hd
      · exact h1.2 c hc
theorem valF_low {s:ByteArray} (h:∀ c ∈ s.data.toList,0<c.toNat∧c.toNat<128):∀ f pos,valF s f pos=true
  | 0,_=>rfl
  | f+1,pos=>by
    by_cases hp:pos<s.size
    · have hc:=h (s[pos]'hp) (by
        have:s[pos]'hp=s.data[pos]'hp:=rfl;rw [this]
        exact Array.mem_toList_iff.2 (Array.getElem_mem hp))
      have e:=decode_ascii s pos hp hc.2;rw [valF_next hp (by rw [e];show (s[pos]'hp).toNat≠0;omega) (by rw [e];intro h;have:=congrArg Prod.fst h;simp at this;omega),valF_low h f _]
    · exact valF_end hp
theorem scanM_R {os:List Nat} (ho:∀ o ∈ os,o<9) (hl:os.length≤8):∃ ts,scanM (txtR os) = .ok ts∧ts.map kt=(1,bs [120,48]) :: ktR 0 os:=by
  have hb:=bodyR_ok os 0 (by omega)
  have hsz:(txtR os).size=(bodyR 0 os).length+2:=by
    show (120 :: 48 :: bodyR 0 os).toArray.size=_
    simp
  (have hd:(txtR os).data.toList=120 :: 48 :: bodyR 0 os:=by simp [txtR,bs]);unfold scanM
  rw [valF_low (by
    rw [hd];intro c hc;simp only [List.mem_cons] at hc;rcases hc with rfl | rfl | hc
    · decide
    · decide
    · exact hb.2 c hc),if_neg (by
    rintro (h | h)
    · have:=hb.1;omega
    · cases h),hd,hsz]
  obtain ⟨a,b,e⟩:=scan_nm (f:=(bodyR 0 os).length+2) (p:=0) (d:=48) (r:=bodyR 0 os) (l:=[]) (by decide) (by
    cases os with
    | nil=>exact .inl rfl
    | cons o' os=>exact .inr ⟨_,rfl⟩)
  rw [e];obtain ⟨ts,h1,h2⟩:=scan_body os 0 (0+2) ((bodyR 0 os).length+2) ([] ++ [⟨1,a,b,bs [120,48]⟩]) ⟨1,a,b,bs [120,48]⟩ ho (by omega) (by omega) rfl rfl;rw [h1];exact ⟨⟨1,a,b,bs [120,48]⟩ :: ts,rfl,by rw [List.map_cons,h2];rfl⟩
/-! ### the tokens, by their kinds -/
structure FlT (ts:List Tk) (os:List Nat):Prop where
  len:ts.length=2 * os.length+3
  id:∀ q,q≤os.length→(tokAt ts (2 * q)).k=1
  op:∀ q,q<os.length→(tokAt ts (2 * q+1)).k=5∧(tokAt ts (2 * q+1)).tx=bs (sgB (os.getD q 0))
  semi:(tokAt ts (2 * os.length+1)).k=6
  en:(tokAt ts (2 * os.length+2)).k=7
theorem tok_kt {ts:List Tk} {i:Nat} {x:Int×ByteArray} (h:(ts.map kt)[i]? = some x):(tokAt ts i).k=x.1∧(tokAt ts i).tx=x.2:=by
  rw [List.getElem?_map] at h;cases ht:ts[i]? with
  | none=>rw [ht] at h;cases h
  | some t=>
    rw [ht] at h;cases h;(have:tokAt ts i=t:=by simp [tokAt,ht]);rw [this];exact ⟨rfl,rfl⟩
theorem ktR_len:∀ (os:List Nat) (i:Nat),(ktR i os).length=2 * os.length+2
  | [],i=>rfl
  | o :: os,i=>by rw [ktR];simp [ktR_len os (i+1)];omega
theorem ktR_at:∀ (os:List Nat) (i:Nat),(∀ q,q<os.length→(ktR i os)[2 * q]? = some (5,bs (sgB (os.getD q 0)))∧∃ y,(ktR i os)[2 * q+1]? = some (1,y))∧(∃ y,(ktR i os)[2 * os.length]? = some (6,y))∧∃ y,(ktR i os)[2 * os.length+1]? = some (7,y)
  | [],i=>⟨fun q h=>by simp at h,⟨_,rfl⟩,⟨_,rfl⟩⟩
  | o :: os,i=>by
    obtain ⟨h1,h2,h3⟩:=ktR_at os (i+1);rw [ktR];refine ⟨fun q hq=>?_,?_,?_⟩
    · cases q with
      | zero=>exact ⟨rfl,_,rfl⟩
      | succ q=>
        have:=h1 q (by simpa using hq);rw [show 2 * (q+1)=2 * q+1+1 by omega,show 2 * q+1+1+1=2 * q+1+1+1 from rfl]
        simpa using this
    · obtain ⟨y,h⟩:=h2
      exact ⟨y,by rw [List.length_cons,show 2 * (os.length+1)=2 * os.length+1+1 by omega];simpa using h⟩
    · obtain ⟨y,h⟩:=h3
      exact ⟨y,by rw [List.length_cons,show 2 * (os.length+1)+1=2 * os.length+1+1+1 by omega];simpa using h⟩
theorem flT_of {ts:List Tk} {os:List Nat} (h:ts.map kt=(1,bs [120,48]) :: ktR 0 os):FlT ts os:=by
  obtain ⟨h1,⟨y2,h2⟩,⟨y3,h3⟩⟩:=ktR_at os 0;have at1:∀ {i x},(ktR 0 os)[i]? = some x→(tokAt ts (i+1)).k=x.1∧(tokAt ts (i+1)).tx=x.2:=fun {i x} e=>tok_kt (by rw [h,List.getElem?_cons_succ];exact e);refine ⟨?_,fun q hq=>?_,fun q hq=>at1 (h1 q hq).1,(at1 h2).1,(at1 h3).1⟩
  · have:=congrArg List.length h
    simp [ktR_len] at this;omega
  · cases q with
    | zero=>exact (tok_kt (x:=(1,bs [120,48])) (by rw [h];rfl)).1
    | succ q=>
      obtain ⟨y,hy⟩:=(h1 q (by omega)).2;have:=(at1 hy).1
      rwa [show 2 * q+1+1=2 * (q+1) by omega] at this
theorem one_kt {t t':Tk} {l:List ByteArray} (h1:t.k=t'.k) (h2:t.tx=t'.tx):oneOf t l=oneOf t' l:=by unfold oneOf oneTx;rw [h1,h2]
theorem rank_kt {t t':Tk} (h1:t.k=t'.k) (h2:t.tx=t'.tx):rankT t=rankT t':=by unfold rankT oneTx;rw [h1,h2]
theorem one_not {t:Tk} {l:List ByteArray} (h:¬ (t.k=5∨t.k=4)):oneOf t l=false:=by
  unfold oneOf;(have e:(decide (t.k=5) || decide (t.k=4))=false:=by simpa using h);rw [e];rfl
theorem sg_facts:∀ o,o<9→rankT ⟨5,0,0,bs (sgB o)⟩=rkO o∧oneOf ⟨5,0,0,bs (sgB o)⟩ [⟨#[123]⟩]=false∧oneOf ⟨5,0,0,bs (sgB o)⟩ [⟨#[46]⟩]=false∧oneOf ⟨5,0,0,bs (sgB o)⟩ [⟨#[91]⟩]=false∧oneOf ⟨5,0,0,bs (sgB o)⟩ [⟨#[40]⟩]=false:=by decide
mutual
def depN:No→Nat
  | .mk _ _ _ _ ks=>depNs ks+1
def depNs:List No→Nat
  | []=>0
  | n :: ns=>max (depN n) (depNs ns)
end
def cn (n:No):Nat:=cntK 40 (flN n)
def sn (n:No):Nat:=(flN n).length
theorem two_n {fr te:Int} {tx:ByteArray} {x z:No}:cn (.mk 52 fr te tx [x,z])=cn x+cn z∧sn (.mk 52 fr te tx [x,z])=1+sn x+sn z∧depN (.mk 52 fr te tx [x,z])=max (depN x) (depN z)+1:=by
  refine ⟨?_,?_,?_⟩
  · unfold cn cntK
    rw [flN,flL,flL,flL,List.append_nil,List.filter_cons,if_neg (by show ¬ decide ((52:Int)=40)=true;decide),List.filter_append,List.length_append]
  · unfold sn
    rw [flN,flL,flL,flL,List.append_nil,List.length_cons,List.length_append];omega
  · rw [depN,depNs,depNs,depNs]
    omega
theorem one_n {fr te:Int} {tx:ByteArray}:cn (.mk 40 fr te tx [])=1∧sn (.mk 40 fr te tx [])=1∧depN (.mk 40 fr te tx [])=1:=by
  refine ⟨?_,?_,?_⟩
  · unfold cn cntK
    rw [flN,flL,List.filter_cons,if_pos (by show decide ((40:Int)=40)=true;decide)];rfl
  · unfold sn
    rw [flN,flL];rfl
  · rw [depN,depNs]
section
variable {ts:List Tk} {os:List Nat}
def rq (os:List Nat) (q:Nat):Nat:=rkO (os.getD q 0)
theorem FlT.rank (h:FlT ts os) (ho:∀ o ∈ os,o<9) {q:Nat} (hq:q≤os.length):rankT (tokAt ts (2 * q+1))=if q<os.length then rq os q else 0:=by
  by_cases h1:q<os.length
  · rw [if_pos h1]
    have h2:=h.op q h1
    have h3:os.getD q 0<9:=by
      rw [List.getD_eq_getElem?_getD,List.getElem?_eq_getElem h1];exact ho _ (List.getElem_mem h1)
    rw [rank_kt (t':=⟨5,0,0,bs (sgB (os.getD q 0))⟩) h2.1 h2.2];exact (sg_facts _ h3).1
  · rw [if_neg h1]
    (obtain rfl:q=os.length:=by omega);have h2:=h.semi;unfold rankT;rw [if_pos (by rw [h2];decide)]
theorem FlT.no (h:FlT ts os) (ho:∀ o ∈ os,o<9) {q:Nat} (hq:q≤os.length):oneOf (tokAt ts (2 * q+1)) [⟨#[123]⟩]=false∧oneOf (tokAt ts (2 * q+1)) [⟨#[46]⟩]=false∧oneOf (tokAt ts (2 * q+1)) [⟨#[91]⟩]=false∧oneOf (tokAt ts (2 * q+1)) [⟨#[40]⟩]=false:=by
  by_cases h1:q<os.length
  · have h2:=h.op q h1
    have h3:os.getD q 0<9:=by
      rw [List.getD_eq_getElem?_getD,List.getElem?_eq_getElem h1];exact ho _ (List.getElem_mem h1)
    have e:∀ l,oneOf (tokAt ts (2 * q+1)) l=oneOf ⟨5,0,0,bs (sgB (os.getD q 0))⟩ l:=fun l=>one_kt h2.1 h2.2;rw [e,e,e,e];exact (sg_facts _ h3).2
  · obtain rfl:q=os.length:=by omega
    (have h2:¬ ((tokAt ts (2 * os.length+1)).k=5∨(tokAt ts (2 * os.length+1)).k=4):=by rw [h.semi];decide);exact ⟨one_not h2,one_not h2,one_not h2,one_not h2⟩
def nmQ (ts:List Tk) (q:Nat):No:=.mk 40 (tokAt ts (2 * q)).fr (tokAt ts (2 * q)).to (tokAt ts (2 * q)).tx []
theorem un_fl (h:FlT ts os) (ho:∀ o ∈ os,o<9) {q:Nat} (hq:q≤os.length) {G:Gr}:unaryP ts G (2 * q,false)=some (.ok (nmQ ts q,(2 * q+1,false))):=by
  have h1:=h.id q hq;obtain ⟨n1,n2,n3,n4⟩:=h.no ho hq;have hno:∀ l,oneOf (tokAt ts (2 * q)) l=false:=fun l=>one_not (by rw [h1];decide)
  have e1:∀ {α:Type} {l:List ByteArray} {f:Bool→PM α} {i:Nat} {b:Bool},oneOf (tokAt ts i) l=false→(takeP ts l >>= f) (i,b)=f false (i,b):=fun {α l f i b} e=>by
    rw [bind_def];unfold takeP;rw [if_neg (by rw [e];decide)]
  have e2:∀ {α:Type} {l:List ByteArray} {f:Bool→PM α} {i:Nat} {b:Bool},oneOf (tokAt ts i) l=false→(isP ts l >>= f) (i,b)=f false (i,b):=fun {α l f i b} e=>by
    rw [bind_def];unfold isP;simp only [e]
  have sf:∀ f x,suffixesL ts G (f+1) x (2 * q+1,false)=some (.ok (x,(2 * q+1,false))):=fun f x=>by
    unfold suffixesL;rw [bind_def]
    have e:suffixP ts G x (2 * q+1,false)=some (.ok ((x,false),(2 * q+1,false))):=by
      unfold suffixP;rw [e1 n2,if_neg (by decide),e1 n3,if_neg (by decide),e1 n4,if_neg (by decide)];rfl
    rw [e];rfl
  unfold unaryP
  show (takeP ts _ >>= _) (2 * q,false)=_
  rw [e1 (hno _),if_neg (by decide)];unfold primaryP;rw [bind_def]
  have eo:operandP ts G (2 * q,false)=some (.ok (nmQ ts q,(2 * q+1,false))):=by
    unfold operandP
    show (if (tokAt ts (2 * q)).k=2 then _ else _:PM No) (2 * q,false)=_
    rw [if_neg (by rw [h1];decide),if_neg (by rw [h1];decide),if_pos h1];unfold opNameP;rw [bind_def];(have en:nameP ts (2 * q,false)=some (.ok (nmQ ts q,(2 * q+1,false))):=by unfold nameP;rw [if_pos h1];rfl);rw [en]
    show (if false=true then _ else _:PM No) (2 * q+1,false)=_
    rw [if_neg (by decide),e2 n1,if_neg (by decide),e2 n2]
    show (if false=true∧_ then _ else _:PM No) (2 * q+1,false)=_
    rw [if_neg (fun e=>absurd e.1 (by decide))];rfl
  rw [eo];exact sf _ _
structure Top (ts:List Tk) (os:List Nat) (q j r:Nat) (x y:No):Prop where
  le:q≤j∧j≤os.length
  all:∀ i,q≤i→i<j→r≤rq os i
  stop:j<os.length→rq os j<r
  cnt:cn y=cn x+(j - q)∧sn y=sn x+2 * (j - q)∧depN y≤depN x+(j - q)∧1≤depN y
  top:j=q∧y=x∨∃ p l z fr te,q≤p∧p<j∧y = .mk 52 fr te (bs (sgB (os.getD p 0))) [l,z]∧cn l=cn x+(p - q)∧sn l≤sn y∧(∀ i,q≤i→i<p→rq os p≤rq os i)∧∀ i,p<i→i<j→rq os p<rq os i
theorem bin_fl (h:FlT ts os) (ho:∀ o ∈ os,o<9):∀ (n r:Nat),0<r→6≤n+r→∀ (f:Nat) (x:No) (q:Nat),q≤os.length→os.length<f+q→1≤depN x→∃ j y,binaryL ts (gr ts n) r f x (2 * q+1,false)=some (.ok (y,(2 * j+1,false)))∧Top ts os q j r x y:=by
  intro n
  induction n with
  | zero=>
    intro r hr hn f x q hq hf hx;obtain ⟨f,rfl⟩:∃ g,f=g+1:=⟨f - 1,by omega⟩;refine ⟨q,x,?_,⟨⟨Nat.le_refl _,hq⟩,fun i h1 h2=>by omega,fun _=>by have:=(rkO_bd (os.getD q 0)).2;unfold rq;omega,⟨by omega,by omega,by omega,hx⟩,.inl ⟨rfl,rfl⟩⟩⟩;unfold binaryL
    show (if rankT (tokAt ts (2 * q+1))<r then _ else _:PM No) (2 * q+1,false)=_
    rw [if_pos]
    · rfl
    · rw [h.rank ho hq]
      have:=(rkO_bd (os.getD q 0)).2;unfold rq;split <;> omega
  | succ n ih=>
    intro r hr hn f
    induction f with
    | zero=>intro x q hq hf;omega
    | succ f ihf=>
      intro x q hq hf hx;unfold binaryL
      show ∃ j y,(if rankT (tokAt ts (2 * q+1))<r then _ else _:PM No) (2 * q+1,false)=_∧_
      by_cases hk:rankT (tokAt ts (2 * q+1))<r
      · rw [if_pos hk]
        refine ⟨q,x,rfl,⟨⟨Nat.le_refl _,hq⟩,fun i h1 h2=>by omega,fun h1=>?_,⟨by omega,by omega,by omega,hx⟩,.inl ⟨rfl,rfl⟩⟩⟩
        rwa [h.rank ho hq,if_pos h1] at hk
      · rw [if_neg hk]
        have hql:q<os.length:=by
          rw [h.rank ho hq] at hk;split at hk <;> omega
        rw [h.rank ho hq,if_pos hql] at hk ⊢;have hb:=rkO_bd (os.getD q 0);have hkb:1≤rq os q∧rq os q≤5:=hb
        -- the operand
        have eu:(gr ts (n+1)).unary (2 * q+1+1,false)=some (.ok (nmQ ts (q+1),(2 * (q+1)+1,false))):=by
          rw [show 2 * q+1+1=2 * (q+1) by omega];exact un_fl h ho (by omega)
        -- what binds closer
        have er:∃ j1 z,riseP ts (gr ts (n+1)) (rq os q) (ts.length+1) (nmQ ts (q+1)) (2 * (q+1)+1,false)=some (.ok (z,(2 * j1+1,false)))∧q+1≤j1∧j1≤os.length∧(∀ i,q+1≤i→i<j1→rq os q<rq os i)∧(j1<os.length→rq os j1≤rq os q)∧
            cn z=1+(j1 - (q+1))∧sn z=1+2 * (j1 - (q+1))∧depN z≤1+(j1 - (q+1))∧1≤depN z:=by
          have h1:cn (nmQ ts (q+1))=1∧sn (nmQ ts (q+1))=1∧depN (nmQ ts (q+1))=1:=one_n;unfold riseP
          show ∃ j1 z,(if rq os q<rankT (tokAt ts (2 * (q+1)+1)) then _ else _:PM No) (2 * (q+1)+1,false)=_∧_
          rw [h.rank ho (by omega)];by_cases hc:rq os q<if q+1<os.length then rq os (q+1) else 0
          · rw [if_pos hc]
            obtain ⟨j1,z,e1,t⟩:=ih (rq os q+1) (by omega) (by omega) (ts.length+1) (nmQ ts (q+1)) (q+1) (by omega) (by have:=h.len;omega) (by omega);have e1':(gr ts (n+1)).binary (nmQ ts (q+1)) (rq os q+1) (2 * (q+1)+1,false)=some (.ok (z,(2 * j1+1,false))):=e1;refine ⟨j1,z,?_,t.le.1,t.le.2,fun i h2 h3=>by have:=t.all i h2 h3;omega,fun h2=>by have:=t.stop h2;omega,by have:=t.cnt.1;omega,by have:=t.cnt.2.1;omega,by have:=t.cnt.2.2.1;omega,t.cnt.2.2.2⟩;rw [bind_def,e1']
            show riseP ts (gr ts (n+1)) (rq os q) ts.length z (2 * j1+1,false)=_
            obtain ⟨k,hk2⟩:∃ k,ts.length=k+1:=⟨2 * os.length+2,h.len⟩;rw [hk2];unfold riseP
            show (if rq os q<rankT (tokAt ts (2 * j1+1)) then _ else _:PM No) (2 * j1+1,false)=_
            rw [h.rank ho t.le.2,if_neg]
            · rfl
            · split
              · have:=t.stop (by assumption)
                omega
              · omega
          · rw [if_neg hc]
            refine ⟨q+1,_,rfl,Nat.le_refl _,by omega,fun i h2 h3=>by omega,fun h2=>?_,by omega,by omega,by omega,by omega⟩;rw [if_pos h2] at hc;omega
        obtain ⟨j1,z,er,g1,g2,g3,g4,g5,g6,g7,g8⟩:=er;have hn2:=two_n (fr:=x.fr) (te:=(tokAt ts (2 * j1+1 - 1)).to) (tx:=(tokAt ts (2 * q+1)).tx) (x:=x) (z:=z);obtain ⟨j,y,ey,t⟩:=ihf (.mk 52 x.fr (tokAt ts (2 * j1+1 - 1)).to (tokAt ts (2 * q+1)).tx [x,z]) j1 g2 (by omega) (by rw [hn2.2.2];omega);refine ⟨j,y,?_,⟨⟨by have:=t.le.1;omega,t.le.2⟩,fun i h1 h2=>?_,t.stop,?_,?_⟩⟩
        · show (stepP >>= _) (2 * q+1,false)=_
          rw [bind_def]
          show ((gr ts (n+1)).unary >>= _) (2 * q+1+1,false)=_
          rw [bind_def,eu]
          show (riseP ts (gr ts (n+1)) (rq os q) (ts.length+1) (nmQ ts (q+1)) >>= _) (2 * (q+1)+1,false)=_
          rw [bind_def,er];exact ey
        · by_cases h3:i<q+1
          · obtain rfl:i=q:=by omega
            omega
          · by_cases h4:i<j1
            · have:=g3 i (by omega) h4
              omega
            · exact t.all i (by omega) h2
        · have h1:=t.cnt
          have h2:=t.le.1;rw [hn2.1,hn2.2.1,hn2.2.2] at h1;refine ⟨by omega,by omega,by omega,h1.2.2.2⟩
        · have h1:=t.cnt
          rw [hn2.1,hn2.2.1,hn2.2.2] at h1;have htx:=(h.op q hql).2;rcases t.top with ⟨e1,e2⟩ | ⟨p,l,w,fr,te,p1,p2,p3,p4,p5,p6,p7⟩
          · refine .inr ⟨q,x,z,x.fr,(tokAt ts (2 * j1+1 - 1)).to,Nat.le_refl _,by omega,by rw [e2,htx],by omega,by omega,fun i h2 h3=>by omega,fun i h2 h3=>g3 i (by omega) (by omega)⟩
          · rw [hn2.1] at p4
            refine .inr ⟨p,l,w,fr,te,by omega,p2,p3,by omega,p5,fun i h2 h3=>?_,p7⟩
            have h4:rq os p≤rq os j1:=by
              by_cases e:j1=p
              · rw [e];exact Nat.le_refl _
              · exact p6 j1 (Nat.le_refl _) (by omega)
            have h5:=g4 (by have:=t.le.2;omega);by_cases h6:i<q+1
            · obtain rfl:i=q:=by omega
              omega
            · by_cases h7:i<j1
              · have:=g3 i (by omega) h7
                omega
              · exact p6 i (by omega) h3
end
mutual
theorem dseq_bd:∀ (n:No) (d:Int),0≤d→d+depN n≤1000→∀ x ∈ dseq d n,d≤x∧x+1≤d+depN n
  | .mk k f t tx ks,d,h0,h1,x,hx=>by
    rw [dseq] at hx;rw [depN] at h1 ⊢;(have e:wrap64 (d+1)=d+1:=by unfold wrap64;omega);rcases List.mem_cons.1 hx with rfl | hx
    · omega
    · rw [e] at hx
      have:=dseqs_bd ks (d+1) (by omega) (by omega) x hx;omega
theorem dseqs_bd:∀ (l:List No) (d:Int),0≤d→d+depNs l≤1000→∀ x ∈ dseqs d l,d≤x∧x+1≤d+depNs l
  | [],d,_,_,x,hx=>by rw [dseqs] at hx;cases hx
  | n :: ns,d,h0,h1,x,hx=>by
    rw [dseqs] at hx;rw [depNs] at h1 ⊢;rcases List.mem_append.1 hx with hx | hx
    · have:=dseq_bd n d h0 (by omega) x hx
      omega
    · have:=dseqs_bd ns d h0 (by omega) x hx
      omega
end
theorem depM_bd {l:List Int} {K:Int} (hK:0≤K) (h2:K≤1000) (h:∀ x ∈ l,0≤x∧x+1≤K):depM l≤K:=by
  have key:∀ (l:List Int) (m:Int),m≤K→(∀ x ∈ l,0≤x∧x+1≤K)→l.foldl (fun m d=>if m<wrap64 (d+1) then wrap64 (d+1) else m) m≤K:=by
    intro l
    induction l with
    | nil=>intro m h _;exact h
    | cons y l ih=>
      intro m hm hl;rw [List.foldl_cons];refine ih _ ?_ fun x hx=>hl x (by simp [hx]);have hy:=hl y (by simp);(have e:wrap64 (y+1)=y+1:=by unfold wrap64;omega);rw [e];split <;> omega
  exact key l 0 hK h
structure RkOk (os:List Nat) (n:No) (p:Nat) (l z:No):Prop where
  k:n.k=52
  lt:p<os.length
  tx:n.tx=bs (sgB (os.getD p 0))
  ks:n.ks=[l,z]
  left:cn l=p+1
  all:cn n=os.length+1
  sz:sn n≤100∧sn l≤100
  lo:∀ i,i<p→rq os p≤rq os i
  hi:∀ i,p<i→i<os.length→rq os p<rq os i
theorem value_R {os:List Nat} (ho:∀ o ∈ os,o<9) (h1:1≤os.length) (h8:os.length≤8):∃ n p l z,valueM (txtR os)=some (.ok n)∧RkOk os n p l z:=by
  obtain ⟨ts,hs,hm⟩:=scanM_R ho h8;have h:=flT_of hm;obtain ⟨j,y,e,t⟩:=bin_fl h ho ts.length 1 (by decide) (by have:=h.len;omega) (ts.length+1) (nmQ ts 0) 0 (by omega) (by have:=h.len;omega) (by rw [show depN (nmQ ts 0)=1 from one_n.2.2];exact Nat.le_refl _)
  have hj:j=os.length:=by
    have h2:=t.le;by_cases h3:j<os.length
    · have h4:=t.stop h3
      have h5:=(rkO_bd (os.getD j 0)).1;unfold rq at h4;omega
    · omega
  subst hj;have hc:=t.cnt;rw [show cn (nmQ ts 0)=1 from one_n.1,show sn (nmQ ts 0)=1 from one_n.2.1,show depN (nmQ ts 0)=1 from one_n.2.2] at hc;rcases t.top with ⟨e0,-⟩ | ⟨p,l,z,fr,te,p1,p2,p3,p4,p5,p6,p7⟩
  · omega
  rw [show cn (nmQ ts 0)=1 from one_n.1] at p4;refine ⟨y,p,l,z,?_,⟨by rw [p3];rfl,p2,by rw [p3];rfl,by rw [p3];rfl,by omega,by omega,⟨by omega,by omega⟩,fun i hi=>p6 i (Nat.zero_le _) hi,p7⟩⟩
  have ex:exprP ts (gr ts ts.length) (0,false)=some (.ok (y,(2 * os.length+1,false))):=by
    unfold exprP;have eu:=un_fl (G:=gr ts ts.length) h ho (q:=0) (Nat.zero_le _);rw [bind_def,show (0:Nat)=2 * 0 from rfl,eu];exact e
  have ea:aloneP ts (exprP ts (gr ts ts.length)) (0,false)=some (.ok (y,(2 * os.length+2,false))):=by
    unfold aloneP;rw [bind_def,ex]
    show (if (tokAt ts (2 * os.length+1)).k=6 then _ else _:PM No) (2 * os.length+1,false)=_
    rw [if_pos h.semi]
    show (if (tokAt ts (2 * os.length+2)).k=7 then _ else _:PM No) (2 * os.length+2,false)=_
    rw [if_pos h.en];rfl
  unfold valueM readM;rw [hs];simp only;rw [ea];simp only
  have hd:depW y≤100:=depM_bd (by decide) (by decide) fun x hx=>by
    have:=dseq_bd y 0 (by decide) (by omega) x hx;omega
  rw [if_neg (by omega)]
set_option maxRecDepth 100000
set_option maxHeartbeats 4000000
def awS:ByteArray:=⟨#[45,97,32,42,32,98,32,61,61,32,99,32,124,124,32,100]⟩
def awOk:Option (Except (Int×Int) No)→Bool
  | some (.ok n)=>decide (n.k=52) && decide (n.tx=⟨#[124,124]⟩) && decide (n.to=16) && (match n.ks with | [a,_]=>decide (a.tx=⟨#[61,61]⟩) | _=>false)
  | _=>false
theorem aw_ok:awOk (valueM awS)=true:=by decide +kernel
theorem aw_form:∃ (n:No) (a b:No),valueM awS=some (.ok n)∧n.k=52∧n.tx=⟨#[124,124]⟩∧n.to=16∧n.ks=[a,b]∧a.tx=⟨#[61,61]⟩:=by
  have h:=aw_ok
  generalize valueM awS=r at h ⊢
  unfold awOk at h;split at h
  · rename_i n
    simp only [Bool.and_eq_true,decide_eq_true_eq] at h;obtain ⟨⟨⟨h1,h2⟩,h3⟩,h4⟩:=h;split at h4
    · rename_i a b hk
      exact ⟨n,a,b,rfl,h1,h2,h3,hk,by simpa using h4⟩
    · cases h4
  · cases h
section
variable {w:World}
theorem awake_calls (hT:Lib.Utf8Tabs 0 1 w) (h3:3≤w.heap.size) {mm:Int} (hmx:w.cell? ⟨2,0,none⟩=some (.int .i64 mm)) :
    Calls Tryz.prog 9 #[] w fun e w'=>e = .returned (.bool true)∧Below w.heap.size w w':=by
  obtain ⟨n,a,b,hv,h1,h2,h3',h4,h5⟩:=aw_form;have HT:=zh hT;have HMX:=zh hmx;have HV:=zh hv;clear hT hmx hv;go_enter Tryz.func9,Tryz.ntmps9;go_wp2_with fail;refine (value_reads (s:=awS) (by decide) HT.out h3 HMX.out HV.out).mono ?_;rintro e w1 ⟨hb1,A',c',rfl,hrow⟩;obtain ⟨nk,nf,nt,ntx,nks⟩:=n;simp only [No.k,No.fr,No.to,No.tx,No.ks] at h1 h2 h3' h4 hrow ⊢;subst h1 h2 h3' h4;obtain ⟨xs,⟨hxl,A2,cap,hv2,hle1,hle2,-,hpos⟩,hN⟩:=hrow;cases hv2;obtain ⟨bb,oo,rfl,hS,hcell⟩:=hpos (by simp);simp only [NosR] at hN;obtain ⟨c1,c2,rfl,hNa,-⟩:=hN;obtain ⟨A3,c3,rfl,-⟩:=hNa.forms;have q3:=hcell 3 (.string a.tx) (by simp);rw [h5] at q3;have hbb:bb<w1.heap.size:=hS.2;(have hk:2≤c':=by simpa using hle1);have HB:=zh hb1;clear hcell hNa hpos hS hb1 hxl;go_wp2_with fail;go_ret;exact ⟨rfl,(HB.out.alloc (by have:=HB.out.size;omega) _).alloc (by have:=HB.out.size;simp;omega) _⟩
end
def signsC:Array Value:=#[.string ⟨#[124,124]⟩,.string ⟨#[38,38]⟩,.string ⟨#[61,61]⟩,.string ⟨#[60]⟩,.string ⟨#[43]⟩,.string ⟨#[45]⟩,.string ⟨#[42]⟩,.string ⟨#[47]⟩,.string ⟨#[37]⟩]
def ranksC:Array Value:=#[.int .i64 1,.int .i64 2,.int .i64 3,.int .i64 3,.int .i64 4,.int .i64 4,.int .i64 5,.int .i64 5,.int .i64 5]
theorem signs_at:∀ o,o<9→signsC[o]? = some (.string (bs (sgB o)))∧ranksC[o]? = some (.int .i64 (rkO o))
  | 0,_=>⟨rfl,rfl⟩ | 1,_=>⟨rfl,rfl⟩ | 2,_=>⟨rfl,rfl⟩ | 3,_=>⟨rfl,rfl⟩ | 4,_=>⟨rfl,rfl⟩ | 5,_=>⟨rfl,rfl⟩ | 6,_=>⟨rfl,rfl⟩ | 7,_=>⟨rfl,rfl⟩ | 8,_=>⟨rfl,rfl⟩
  | o+9,h=>by omega
theorem bs_app (l m:List UInt8):bs (l ++ m)=bs l ++ bs m:=by
  apply ByteArray.ext;simp [bs,ByteArray.data_append]
theorem txtR_snoc (os:List Nat) (o:Nat):txtR (os ++ [o])=txtR os ++ ⟨#[32]⟩ ++ bs (sgB o) ++ ⟨#[32,120]⟩ ++ bs [UInt8.ofNat (49+os.length)]:=by
  have e:120 :: 48 :: bodyR 0 (os ++ [o])=(120 :: 48 :: bodyR 0 os) ++ [32] ++ sgB o ++ [32,120] ++ [UInt8.ofNat (49+os.length)]:=by
    rw [bodyR_app];simp
  unfold txtR;rw [e,bs_app,bs_app,bs_app,bs_app];rfl
set_option maxRecDepth 100000
set_option maxHeartbeats 4000000
theorem ranks_walk {w:World} {v:Value} {ops:List Int} (hr:Row w (fun b=>b<w.heap.size) 1 v ops.length (ops.map (.int .i64))) (hT:Lib.Utf8Tabs 0 1 w) (h3:3≤w.heap.size) {mm:Int} (hmx:w.cell? ⟨2,0,none⟩=some (.int .i64 mm)) :
    Calls Tryz.prog 5 #[v] w fun e w'=>e = .returned (.bool true)∧Below w.heap.size w w':=by
  obtain ⟨A1,c1,rfl,hln⟩:=hr.form;have HT:=zh hT;have HMX:=zh hmx;have HR:=zh hr;clear hT hmx hr
  have HA:Hid (∀ W:World,Below w.heap.size w W→Calls Tryz.prog 9 #[] W fun e w'=>e = .returned (.bool true)∧Below W.heap.size W w'):=zh fun W hb=>by
    have hz:=hb.size;exact awake_calls (Utf8Tabs_below HT.out hb) (by omega) ((hb.cell (p:=⟨2,0,none⟩) (by show 2<_;omega)).trans HMX.out)
  have hB2:Below w.heap.size w ((w.alloc (.cells signsC 9)).alloc (.cells ranksC 3)):=((Below.refl _ _).alloc (Nat.le_refl _) _).alloc (by simp) _;have HB2:=zh hB2;have HS2:Hid (Blk ((w.alloc (.cells signsC 9)).alloc (.cells ranksC 3)) w.heap.size 9 signsC):=zh ((Blk.new w _ _).alloc _);have HK2:Hid (Blk ((w.alloc (.cells signsC 9)).alloc (.cells ranksC 3)) (w.heap.size+1) 3 ranksC):=zh (by simpa using Blk.new (w.alloc (.cells signsC 9)) 3 ranksC);clear hB2;rcases Nat.lt_or_ge ops.length 1 with h0 | h0
  · have d1:decide ((ops.length:Int)<1)=true:=by simp;omega
    go_enter Tryz.func5,Tryz.ntmps5;go_wp2_with fail;refine (HA.out _ HB2.out).mono ?_;rintro e w1 ⟨rfl,hb1⟩;have HB:=zh (HB2.out.trans (hb1.mono (by simp;omega)));clear hb1;go_wp2_with fail;go_ret;exact ⟨rfl,HB.out⟩
  rcases Nat.lt_or_ge 8 ops.length with h8 | h8
  · have d1:decide ((ops.length:Int)<1)=false:=by simp;omega
    (have d2:decide ((ops.length:Int)>8)=true:=by simp;omega);go_enter Tryz.func5,Tryz.ntmps5;go_wp2_with fail;refine (HA.out _ HB2.out).mono ?_;rintro e w1 ⟨rfl,hb1⟩;have HB:=zh (HB2.out.trans (hb1.mono (by simp;omega)));clear hb1;go_wp2_with fail;go_ret;exact ⟨rfl,HB.out⟩
  (have d1:decide ((ops.length:Int)<1)=false:=by simp;omega);(have d2:decide ((ops.length:Int)>8)=false:=by simp;omega);go_enter Tryz.func5,Tryz.ntmps5;go_wp2_with fail
  (try go_step3)
  go_wp2_with fail;have HZ2:Hid (((w.alloc (.cells signsC 9)).alloc (.cells ranksC 3)).heap.size=w.heap.size+2):=zh (by simp);obtain ⟨W2,hW2⟩:∃ W2,W2=(w.alloc (.cells signsC 9)).alloc (.cells ranksC 3):=⟨_,rfl⟩;rw [← hW2] at HB2 HS2 HK2 HZ2
  go_loopg [5,6] ops.length (fun mm s i wr=>∃ j:Nat,mm=ops.length - j∧j≤ops.length∧i = .int .i64 j∧s = .string (txtR ((ops.map Int.toNat).take j))∧Hid (∀ k (hk:k<ops.length),k<j→0≤ops[k]∧ops[k]<9)∧Hid (Below W2.heap.size W2 wr))
  case atStart=>exact ⟨0,by simp,by omega,rfl,rfl,zh (fun k _ h=>by omega),zh (by rw [hW2];exact Below.refl _ _)⟩
  case round=>
    obtain ⟨j,rfl,hj,rfl,rfl,HIN,HB⟩:=hrel;have hzr:=HB.out.size;have hz2:=HZ2.out;have HBW:Hid (Below w.heap.size w wr):=zh (HB2.out.trans (HB.out.mono (by omega)));have HSr:=zh (HS2.out.below HB.out (by omega));have HKr:=zh (HK2.out.below HB.out (by omega));by_cases hlt:j<ops.length
    · obtain ⟨b,o,cap,u,hv,hSb,hu,hc⟩:=(HR.out.keep (SameOn.of_below HBW.out fun _ h=>h)).at1 hlt
      cases hv;rw [List.getElem?_map,List.getElem?_eq_getElem hlt] at hu;cases hu;obtain ⟨x,hx⟩:∃ x,ops[j]=x:=⟨_,rfl⟩;rw [hx] at hc;have HX:=zh hx;clear hx hz2;by_cases hneg:x<0
      · have e1:decide (x<0)=true:=by simpa using hneg
        clear hneg;go_wp2_with fail;refine (HA.out _ HBW.out).mono ?_;rintro e w1 ⟨rfl,hb1⟩;have HB':=zh (HBW.out.trans (hb1.mono HBW.out.size));clear hb1;go_wp2_with fail;go_ret;exact ⟨rfl,HB'.out⟩
      by_cases hbig:9≤x
      · have e1:decide (x<0)=false:=by simpa using hneg
        (have e2:decide (x≥9)=true:=by simpa using hbig);clear hneg hbig;go_wp2_with fail;refine (HA.out _ HBW.out).mono ?_;rintro e w1 ⟨rfl,hb1⟩;have HB':=zh (HBW.out.trans (hb1.mono HBW.out.size));clear hb1;go_wp2_with fail;go_ret;exact ⟨rfl,HB'.out⟩
      obtain ⟨q,rfl⟩:∃ q:Nat,x=(q:Int):=⟨x.toNat,by omega⟩;(have hq:q<9:=by omega);(have e1:decide ((q:Int)<0)=false:=by simp);(have e2:decide ((q:Int)≥9)=false:=by simp;omega);(have hqi:(q:Int)<9:=by omega);(have hq0:(0:Int)≤(q:Int):=by omega);have hs:=HSr.out.cell q;rw [(signs_at q hq).1] at hs;clear hneg hbig;(have hj8:j<8:=by omega);have hsu:=sgB_ok (o:=q);obtain ⟨T,hT⟩:∃ T,txtR ((ops.map Int.toNat).take j)=T:=⟨_,rfl⟩;obtain ⟨U,hU⟩:∃ U,bs (sgB q)=U:=⟨_,rfl⟩
      have hTs:T.size≤100:=by
        have h1:=bodyR_ok ((ops.map Int.toNat).take j) 0 (by simp;omega);(have h2:((ops.map Int.toNat).take j).length≤8:=by simp;omega);rw [← hT]
        show (120 :: 48 :: bodyR 0 _).toArray.size≤100
        simp;omega
      have hUs:U.size≤2:=by
        rw [← hU]
        show (sgB q).toArray.size≤2
        simp;rcases hsu.1 with h | h <;> omega
      rw [hU] at hs;rw [hT];have HTT:=zh hT;have HUU:=zh hU
      have hcb:(UInt8.ofNat (49+j)).toNat=49+j:=by
        (have:∀ j,j<8→(UInt8.ofNat (49+j)).toNat=49+j:=by decide);exact this j hj8
      have hcv:∀ W:World,W.cell? ⟨wr.heap.size,0,none⟩=some (.int .u8 (49+(j:Int)))→(convert 40 9 (.slice (some ⟨wr.heap.size,0,none⟩) 1 1)).run Tryz.prog W = .ok (.string (bs [UInt8.ofNat (49+j)])) W:=fun W hW=>by
        refine run_convert_bytes_back (P:=Tryz.prog) W 40 9 5 ⟨wr.heap.size,0,none⟩ 1 [UInt8.ofNat (49+j)] Tryz.underlying40 Tryz.underlying5 Tryz.underlying9 (fun k hk=>?_);(obtain rfl:k=0:=by simpa using hk);rw [show ((⟨wr.heap.size,0,none⟩:Addr).add 0)=⟨wr.heap.size,0,none⟩ from rfl,hW];simp [hcb];omega
      have hcw:=hcv (wr.alloc (.cells #[.int .u8 (49+(j:Int))] 5)).drew ((Blk.new wr _ _).drew.cell 0);obtain ⟨D,hD⟩:∃ D,bs [UInt8.ofNat (49+j)]=D:=⟨_,rfl⟩;(have hDs:D.size≤1:=by rw [← hD];exact Nat.le_refl 1);rw [hD] at hcw;have HDD:=zh hD;clear hcv hT hU hsu hD hcb;(have hbl:b<wr.heap.size:=by have:=HZ2.out;omega);(have hwl:w.heap.size<wr.heap.size:=by have:=HZ2.out;omega);(have hjl:(49:Int)+(j:Int)≤57:=by omega);go_wp2_with fail
      (try go_step3)
      go_wp2_with fail
      go_region
      all_goals
        go_wp2_with fail
        go_roundg (ops.length - (j+1))
        case measure=>omega
        case rel=>
          refine ⟨j+1,rfl,by omega,by go_num,?_,zh (fun k hk h=>?_),zh ?_⟩
          · rw [List.take_succ_eq_append_getElem (by simpa using hlt),txtR_snoc,HTT.out]
            (have h1:((ops.map Int.toNat).take j).length=j:=by simp;omega);(have h2:(ops.map Int.toNat)[j]'(by simpa using hlt)=q:=by simp [HX.out]);rw [h1,h2,HUU.out,HDD.out]
          · by_cases e:k=j
            · subst e
              rw [HX.out];omega
            · exact HIN.out k hk (by omega)
          · exact (HB.out.alloc hzr _).drew
    · obtain rfl:j=ops.length:=by omega
      have ht:(ops.map Int.toNat).take ops.length=ops.map Int.toNat:=List.take_of_length_le (by simp);rw [ht];obtain ⟨os,hos⟩:∃ os,ops.map Int.toNat=os:=⟨_,rfl⟩;(have hol:os.length=ops.length:=by rw [← hos];simp);have hin:=HIN.out
      have ho:∀ x ∈ os,x<9:=by
        intro x hx;rw [← hos] at hx;obtain ⟨y,hy,rfl⟩:=List.mem_map.1 hx;obtain ⟨k,hk,rfl⟩:=List.mem_iff_getElem.1 hy;have:=hin k hk hk;omega
      have hat:∀ k (hk:k<ops.length),ops[k]=(os.getD k 0:Nat)∧os.getD k 0<9:=by
        intro k hk;have h1:=hin k hk hk
        have h2:os.getD k 0=ops[k].toNat:=by
          rw [← hos,List.getD_eq_getElem?_getD,List.getElem?_eq_getElem (by simpa using hk)];simp
        rw [h2];omega
      rw [hos];obtain ⟨n,p,l,z,hv,hok⟩:=value_R ho (by omega) (by omega)
      have hts:(txtR os).size≤100:=by
        have h1:=bodyR_ok os 0 (by omega)
        show (120 :: 48 :: bodyR 0 os).toArray.size≤100
        simp;omega
      have HAT:=zh hat;have HOK:=zh hok;have HV:=zh hv;have HOL:=zh hol;clear hat hok hv ho hin hos ht HIN hlt hol hj;go_wp2_with fail
      (try go_step3)
      go_wp2_with fail;refine (value_reads (s:=txtR os) (by omega) (Utf8Tabs_below HT.out HBW.out) (by omega) ((HBW.out.cell (p:=⟨2,0,none⟩) (by show 2<_;omega)).trans HMX.out) HV.out).mono ?_;rintro e w1 ⟨hb1,A',c',rfl,hrow⟩;rw [HOK.out.ks] at hrow;rw [HOK.out.k,HOK.out.tx,HOK.out.ks];obtain ⟨U,hU⟩:∃ U,bs (sgB (os.getD p 0))=U:=⟨_,rfl⟩;rw [hU];have HUU:=zh hU;clear hU;have HROW:=zh hrow;have HB1:Hid (Below w.heap.size w w1):=zh (HBW.out.trans (hb1.mono HBW.out.size));have hS1:=HSr.out.below hb1 (by omega);have hK1:=HKr.out.below hb1 (by omega);have HS1:=zh hS1;have HK1:=zh hK1;have hz1:=hb1.size;clear hb1 hrow hS1 hK1 HSr HKr;simp only [List.length_cons,List.length_nil];go_wp2_with fail
      (try go_step3)
      go_wp2_with fail;have HROW2:Hid (RowN w1 (New wr w1) (.slice A' 2 c') [l,z]):=HROW;clear HROW;obtain ⟨W5,hW5⟩:∃ W5,W5=(w1.alloc (.cells #[.int .i64 52,.int .i64 n.fr,.int .i64 n.to,.string U,.slice A' 2 c'] 25)).alloc (.cells #[.int .i64 0,.string ⟨#[]⟩,.int .i64 0] 27):=⟨_,rfl⟩;have HN5:Hid (Blk W5 w1.heap.size 25 #[.int .i64 52,.int .i64 n.fr,.int .i64 n.to,.string U,.slice A' 2 c']):=zh (by rw [hW5];exact (Blk.new w1 _ _).alloc _);(have hz5:W5.heap.size=w1.heap.size+2:=by rw [hW5];simp);have HB5:Hid (Below w.heap.size w W5):=zh (by rw [hW5];exact (HB1.out.alloc HB1.out.size _).alloc (by have:=HB1.out.size;simp;omega) _);have HB15:Hid (Below w1.heap.size w1 W5):=zh (by rw [hW5];exact ((Below.refl _ _).alloc (Nat.le_refl _) _).alloc (by simp) _);have HZ5:=zh hz5;clear hz5
      go_loopg [9,10] (ops.length - 1) (fun mm s i wr=>∃ a j:Nat,mm=ops.length - j∧j≤ops.length∧1≤j∧a<j∧i = .int .i64 j∧s = .int .i64 a∧Hid (∀ k,k<a→rq os a≤rq os k)∧Hid (∀ k,a<k→k<j→rq os a<rq os k)∧Hid (Below W5.heap.size W5 wr))
      case atStart=>exact ⟨0,1,by omega,by omega,by omega,by omega,rfl,rfl,zh (fun k h=>by omega),zh (fun k h1 h2=>by omega),zh (by rw [hW5];exact Below.refl _ _)⟩
      case round=>
        clear hzr hz2;obtain ⟨a,j,rfl,hj,hj1,haj,rfl,rfl,HLO,HHI,HBr⟩:=hrel
        rename World=>wq
        have hzq:=HBr.out.size;have hz5:=HZ5.out;have HBQ:Hid (Below w.heap.size w wq):=zh (HB5.out.trans (HBr.out.mono HB5.out.size));have HSq:Hid (Blk wq w.heap.size 9 signsC):=zh ((HS1.out.below HB15.out HS1.out.lt).below HBr.out (by have:=HS1.out.lt;omega));have HKq:Hid (Blk wq (w.heap.size+1) 3 ranksC):=zh ((HK1.out.below HB15.out HK1.out.lt).below HBr.out (by have:=HK1.out.lt;omega));by_cases hlt:j<ops.length
        · have hro:=HR.out.keep (SameOn.of_below HBQ.out fun _ h=>h)
          obtain ⟨b,o,cap,u,hv,hSb,hu,hc⟩:=hro.at1 hlt;obtain ⟨b',o',cap',u',hv',hSb',hu',hc'⟩:=hro.at1 (show a<ops.length by omega);cases hv;cases hv';rw [List.getElem?_map,List.getElem?_eq_getElem hlt] at hu;cases hu;rw [List.getElem?_map,List.getElem?_eq_getElem (show a<ops.length by omega)] at hu';cases hu';have h1:=HAT.out j hlt;have h2:=HAT.out a (by omega);rw [h1.1] at hc;rw [h2.1] at hc';have hr1:=HKq.out.cell (os.getD j 0);have hr2:=HKq.out.cell (os.getD a 0);rw [(signs_at _ h1.2).2] at hr1;rw [(signs_at _ h2.2).2] at hr2;(have g1:((os.getD j 0:Nat):Int)<9:=by have:=h1.2;omega);(have g2:((os.getD a 0:Nat):Int)<9:=by have:=h2.2;omega);have HJ:Hid (rq os j=rkO (os.getD j 0)):=zh rfl;have HAA:Hid (rq os a=rkO (os.getD a 0)):=zh rfl;obtain ⟨xj,hxj⟩:∃ x,os.getD j 0=x:=⟨_,rfl⟩;obtain ⟨xa,hxa⟩:∃ x,os.getD a 0=x:=⟨_,rfl⟩;rw [hxj] at hc hr1 g1 HJ;rw [hxa] at hc' hr2 g2 HAA;clear hxj hxa h1 h2 hro;by_cases hle:rkO xj≤rkO xa
          · have e1:decide (((rkO xj:Nat):Int)≤((rkO xa:Nat):Int))=true:=by simp;omega
            have HLE:=zh hle;clear hle;go_wp2_with fail
            go_region
            all_goals
              go_wp2_with fail
              go_roundg (ops.length - (j+1))
              case measure=>omega
              case rel=>
                refine ⟨j,j+1,rfl,by omega,by omega,by omega,by go_num,rfl,zh (fun k h=>?_),zh (fun k h1 h2=>by omega),zh HBr.out.drew⟩;have h1:=HLE.out;rw [← HJ.out,← HAA.out] at h1;by_cases e:k<a
                · have:=HLO.out k e
                  omega
                · by_cases e2:k=a
                  · rw [e2];exact h1
                  · have:=HHI.out k (by omega) h
                    omega
          · have e1:decide (((rkO xj:Nat):Int)≤((rkO xa:Nat):Int))=false:=by simp;omega
            have HLE:=zh hle;clear hle;go_wp2_with fail
            go_region
            all_goals
              go_wp2_with fail
              go_roundg (ops.length - (j+1))
              case measure=>omega
              case rel=>
                refine ⟨a,j+1,rfl,by omega,by omega,by omega,by go_num,rfl,HLO,zh (fun k h1 h2=>?_),zh HBr.out.drew⟩;have h3:=HLE.out;rw [← HJ.out,← HAA.out] at h3;by_cases e:k<j
                · exact HHI.out k h1 e
                · obtain rfl:k=j:=by omega
                  omega
        · obtain rfl:j=ops.length:=by omega
          have hpa:a=p:=by
            have hl:=HOK.out.lt;have ho:=HOL.out;rcases Nat.lt_trichotomy a p with h | h | h
            · have h1:=HHI.out p h (by omega)
              have h2:=HOK.out.lo a h;omega
            · exact h
            · have h1:=HOK.out.hi a h (by omega)
              have h2:=HLO.out p h;omega
          subst hpa;clear hlt HLO HHI hj;have HNq:=HN5.out.below HBr.out (by omega);have n0:=HNq.cell 0;have n1:=HNq.cell 1;have n2:=HNq.cell 2;have n3:=HNq.cell 3;have n4:=HNq.cell 4;simp at n0 n1 n2 n3 n4;have hBq1:Below w1.heap.size w1 wq:=HB15.out.trans (HBr.out.mono (by omega));have hrq:=HROW2.out.keep (SameOn.of_below hBq1 fun b hb=>hb.2) (fun _ h=>h);obtain ⟨g,o,cap,Bk,c,hv,hSg,q0,q1,q2,q3,q4,hkid⟩:=hrq.cellsD (j:=0) (by simp);cases hv;simp only [zl2,Nat.zero_mul,Nat.add_zero] at q0 q1 q2 q3 q4 hkid;have hgw:=hSg.2;(have hgs:g<wq.heap.size:=by omega);have HKID:Hid (NoR wq (fun b=>b<wq.heap.size) l [.int .i64 l.k,.int .i64 l.fr,.int .i64 l.to,.string l.tx,.slice Bk l.ks.length c]):=zh (hkid.keep zr fun b hb=>by have:=hb.2;omega)
          have HNN:Hid (NoR wq (fun b=>b<w1.heap.size) n [.int .i64 52,.int .i64 n.fr,.int .i64 n.to,.string U,.slice (some ⟨g,o,none⟩) 2 c']):=zh (by
            have h1:NoR wq (fun b=>b<w1.heap.size) n [.int .i64 n.k,.int .i64 n.fr,.int .i64 n.to,.string n.tx,.slice (some ⟨g,o,none⟩) 2 c']:=NoR.mk_ (by rw [HOK.out.ks];exact hrq.keep zr fun b hb=>hb.2);rw [HOK.out.k,HOK.out.tx,HUU.out] at h1
            exact h1)
          clear hkid hrq HNq hBq1;go_wp2_with fail;refine (idents_calls (n:=l) HKID.out (by have:=HOK.out.sz.2;unfold sn at this;omega)).mono ?_;rintro e w6 ⟨A6,c6,rfl,hb6⟩;have hcl:cntK 40 (flN l)=a+1:=HOK.out.left;rw [hcl];have HB6:Hid (Below w.heap.size w w6):=zh (HBQ.out.trans (hb6.mono HBQ.out.size));have HBq6:=zh hb6;clear hcl hb6;go_wp2_with fail
          (try go_step3)
          go_wp2_with fail;(have hbw1:w1.heap.size<wq.heap.size:=by omega);have hro:=HR.out.keep (SameOn.of_below HB6.out fun _ h=>h);obtain ⟨b,o2,cap2,u,hv2,hSb,hu,hc⟩:=hro.at1 (show a<ops.length by omega);cases hv2;rw [List.getElem?_map,List.getElem?_eq_getElem haj] at hu;cases hu;have h2:=HAT.out a haj;rw [h2.1] at hc;have hws:w.heap.size<wq.heap.size:=HSq.out.lt;have hs6:=(HSq.out.below HBq6.out hws).cell (os.getD a 0);rw [(signs_at _ h2.2).1,HUU.out] at hs6;(have g2:((os.getD a 0:Nat):Int)<9:=by have:=h2.2;omega);obtain ⟨xq,hxq⟩:∃ x,os.getD a 0=x:=⟨_,rfl⟩;rw [hxq] at hc hs6 g2;have k0:=(HBq6.out.cell (p:=⟨w1.heap.size,0,none⟩) hbw1).trans n0;have k1:=(HBq6.out.cell (p:=⟨w1.heap.size,1,none⟩) hbw1).trans n1;have k2:=(HBq6.out.cell (p:=⟨w1.heap.size,2,none⟩) hbw1).trans n2;have k3:=(HBq6.out.cell (p:=⟨w1.heap.size,3,none⟩) hbw1).trans n3;have k4:=(HBq6.out.cell (p:=⟨w1.heap.size,4,none⟩) hbw1).trans n4;clear hxq h2 hro n0 n1 n2 n3 n4 q0 q1 q2 q3 q4;have hz6:=HBq6.out.size;(have hwa:IntKind.i64.wrap ((a:Int)+1)=(a:Int)+1:=by rw [IntKind.wrap_i64];omega);(have hwo:IntKind.i64.wrap ((ops.length:Int)+1)=(ops.length:Int)+1:=by rw [IntKind.wrap_i64];omega);refine wp_region_held_drew (S:=(fun w'=>w'.cell? ⟨w1.heap.size,0,none⟩=some (.int .i64 52)∧w'.cell? ⟨w1.heap.size,1,none⟩=some (.int .i64 n.fr)∧w'.cell? ⟨w1.heap.size,2,none⟩=some (.int .i64 n.to)∧w'.cell? ⟨w1.heap.size,3,none⟩=some (.string U)∧w'.cell? ⟨w1.heap.size,4,none⟩=some (.slice (some ⟨g,o,none⟩) 2 c')∧w'.cell? ⟨b,o2+a,none⟩=some (.int .i64 xq)∧w'.cell? ⟨w.heap.size,xq,none⟩=some (.string U))) (by kernel_rfl) (by exact ⟨k0,k1,k2,k3,k4,hc,hs6⟩) (fun hHeld=>?_);refine drewH ?_ hHeld;clear hHeld;rintro w7 hb hHeld;refine startH 18 (by kernel_rfl) (fun hok=>?_);have HB7:Hid (Below w.heap.size w w7):=zh (HB6.out.trans (hb.mono HB6.out.size));have HQ7:Hid (Below wq.heap.size wq w7):=zh (HBq6.out.trans (hb.mono HBq6.out.size));clear hb k0 k1 k2 k3 k4 hc hs6
          skip
          (iterate 18 (refine takeH (v:=?_) hok (by decide) (fun _ _ _ h=>h) (Or.inl ⟨by rfl,?_⟩) (by assumption) ?_;rotate_left;(intro W hSw;(try dsimp only at hSw);go_simp;first | done | rfl);try simp only [Act.put,zl1,zl2,zl3,zl4,zl5,zl6]));refine rawH ?_;clear hok
          (refine wpAnyH_take (i:=20) (v:=?_) rfl (by kernel_rfl) (by kernel_rfl) (by kernel_rfl) (fun _ _ _ h=>h) (Or.inl ⟨by rfl,?_⟩) (by assumption) ?_;rotate_left;(intro W hSw;(try dsimp only at hSw);(try simp only [zl1,zl2,zl3]);go_simp;first | done | rfl);try simp only [Act.put,zl1,zl2,zl3,zl4,zl5,zl6])
          (refine wpAnyH_take (i:=21) (v:=?_) rfl (by kernel_rfl) (by kernel_rfl) (by kernel_rfl) (fun _ _ _ h=>h) (Or.inl ⟨by rfl,?_⟩) (by assumption) ?_;rotate_left;(intro W hSw;(try dsimp only at hSw);(try simp only [zl1,zl2,zl3]);go_simp;first | done | rfl);try simp only [Act.put,zl1,zl2,zl3,zl4,zl5,zl6])
          (refine wpAnyH_take (i:=22) (v:=?_) rfl (by kernel_rfl) (by kernel_rfl) (by kernel_rfl) (fun _ _ _ h=>h) (Or.inl ⟨by rfl,?_⟩) (by assumption) ?_;rotate_left;(intro W hSw;(try dsimp only at hSw);(try simp only [zl1,zl2,zl3]);go_simp;first | done | rfl);try simp only [Act.put,zl1,zl2,zl3,zl4,zl5,zl6])
          refine wpAnyH_ready (rs:=[18]) (by kernel_rfl) (by simp) ?_;refine AllReadyH.cons rfl (fun K hK=>?_) AllReadyH.nil;(try simp only [zl1,zl2,zl3]);go_simp
          go_at_call 15
          have hz7:=HQ7.out.size;(have hbl:b<w7.heap.size:=by have:=HB7.out.size;omega);(have hnn:NoR w7 (fun k=>k<w7.heap.size) n [.int .i64 52,.int .i64 n.fr,.int .i64 n.to,.string U,.slice (some ⟨g,o,none⟩) 2 c']:=HNN.out.keep (SameOn.of_below HQ7.out fun b hb=>by omega) fun b hb=>by omega);refine (idents_calls (n:=n) hnn (by have:=HOK.out.sz.1;unfold sn at this;omega)).mono ?_;rintro e w8 ⟨A8,c8,rfl,hb8⟩;have hcn:cntK 40 (flN n)=ops.length+1:=HOK.out.all.trans (by rw [HOL.out]);rw [hcn];have HB8:Hid (Below w.heap.size w w8):=zh (HB7.out.trans (hb8.mono HB7.out.size));obtain ⟨m0,m1,m2,m3,m4,m5,m6⟩:=hHeld;have hz87:=hb8.size;refine hK.out _ _ (by exact ⟨(hb8.cell (p:=⟨w1.heap.size,0,none⟩) (by show w1.heap.size<_;omega)).trans m0,(hb8.cell (p:=⟨w1.heap.size,1,none⟩) (by show w1.heap.size<_;omega)).trans m1,(hb8.cell (p:=⟨w1.heap.size,2,none⟩) (by show w1.heap.size<_;omega)).trans m2,(hb8.cell (p:=⟨w1.heap.size,3,none⟩) (by show w1.heap.size<_;omega)).trans m3,(hb8.cell (p:=⟨w1.heap.size,4,none⟩) (by show w1.heap.size<_;omega)).trans m4,(hb8.cell (p:=⟨b,o2+a,none⟩) hbl).trans m5,(hb8.cell (p:=⟨w.heap.size,xq,none⟩) (by show w.heap.size<_;omega)).trans m6⟩) (fun hHeld=>?_);clear hK K hb8 hnn hcn m0 m1 m2 m3 m4 m5 m6;try simp only [Act.put,zl1,zl2,zl3,zl4,zl5,zl6]
          (refine wpAnyH_take (i:=19) (v:=?_) rfl (by kernel_rfl) (by kernel_rfl) (by kernel_rfl) (fun _ _ _ h=>h) (Or.inl ⟨by rfl,?_⟩) (by assumption) ?_;rotate_left;(intro W hSw;(try dsimp only at hSw);(try simp only [zl1,zl2,zl3]);go_simp;first | done | rfl);try simp only [Act.put,zl1,zl2,zl3,zl4,zl5,zl6])
          (refine wpAnyH_take (i:=23) (v:=?_) rfl (by kernel_rfl) (by kernel_rfl) (by kernel_rfl) (fun _ _ _ h=>h) (Or.inl ⟨by rfl,?_⟩) (by assumption) ?_;rotate_left;(intro W hSw;(try dsimp only at hSw);(try simp only [zl1,zl2,zl3]);go_simp;first | done | rfl);try simp only [Act.put,zl1,zl2,zl3,zl4,zl5,zl6])
          (refine wpAnyH_take (i:=24) (v:=?_) rfl (by kernel_rfl) (by kernel_rfl) (by kernel_rfl) (fun _ _ _ h=>h) (Or.inl ⟨by rfl,?_⟩) (by assumption) ?_;rotate_left;(intro W hSw;(try dsimp only at hSw);(try simp only [zl1,zl2,zl3]);go_simp;first | done | rfl);try simp only [Act.put,zl1,zl2,zl3,zl4,zl5,zl6])
          (refine wpAnyH_take (i:=25) (v:=?_) rfl (by kernel_rfl) (by kernel_rfl) (by kernel_rfl) (fun _ _ _ h=>h) (Or.inl ⟨by rfl,?_⟩) (by assumption) ?_;rotate_left;(intro W hSw;(try dsimp only at hSw);(try simp only [zl1,zl2,zl3]);go_simp;first | done | rfl);try simp only [Act.put,zl1,zl2,zl3,zl4,zl5,zl6])
          refine wpAnyH_ready (rs:=[26]) (by kernel_rfl) (by simp) ?_;refine AllReadyH.cons rfl (fun K hK=>?_) AllReadyH.nil;(try simp only [zl1,zl2,zl3]);go_simp
          go_at_call 9
          refine (HA.out _ HB8.out).mono ?_;rintro e w9 ⟨rfl,hb9⟩;have HB9:Hid (Below w.heap.size w w9):=zh (HB8.out.trans (hb9.mono HB8.out.size));obtain ⟨m0,m1,m2,m3,m4,m5,m6⟩:=hHeld;have hz8:=hb9.size;have hz78:=HB8.out.size;(have hbl8:b<w8.heap.size:=by omega);refine hK.out _ _ (by exact ⟨(hb9.cell (p:=⟨w1.heap.size,0,none⟩) (by show w1.heap.size<_;omega)).trans m0,(hb9.cell (p:=⟨w1.heap.size,1,none⟩) (by show w1.heap.size<_;omega)).trans m1,(hb9.cell (p:=⟨w1.heap.size,2,none⟩) (by show w1.heap.size<_;omega)).trans m2,(hb9.cell (p:=⟨w1.heap.size,3,none⟩) (by show w1.heap.size<_;omega)).trans m3,(hb9.cell (p:=⟨w1.heap.size,4,none⟩) (by show w1.heap.size<_;omega)).trans m4,(hb9.cell (p:=⟨b,o2+a,none⟩) hbl8).trans m5,(hb9.cell (p:=⟨w.heap.size,xq,none⟩) (by show w.heap.size<_;omega)).trans m6⟩) (fun hHeld=>?_);clear hK K hb9 m0 m1 m2 m3 m4 m5 m6;try simp only [Act.put,zl1,zl2,zl3,zl4,zl5,zl6]
          (refine wpAnyH_take (i:=27) (v:=?_) rfl (by kernel_rfl) (by kernel_rfl) (by kernel_rfl) (fun _ _ _ h=>h) (Or.inl ⟨by rfl,?_⟩) (by assumption) ?_;rotate_left;(intro W hSw;(try dsimp only at hSw);(try simp only [zl1,zl2,zl3]);go_simp;first | done | rfl);try simp only [Act.put,zl1,zl2,zl3,zl4,zl5,zl6])
          (refine wpAnyH_take (i:=28) (v:=?_) rfl (by kernel_rfl) (by kernel_rfl) (by kernel_rfl) (fun _ _ _ h=>h) (Or.inl ⟨by rfl,?_⟩) (by assumption) ?_;rotate_left;(intro W hSw;(try dsimp only at hSw);(try simp only [zl1,zl2,zl3]);go_simp;first | done | rfl);try simp only [Act.put,zl1,zl2,zl3,zl4,zl5,zl6])
          refine wpAnyH_done (by kernel_rfl) ?_ _;go_wp2_with fail;go_ret;exact ⟨rfl,HB9.out⟩
end Go.Proofs.YtfmgdmeopakdaaaGreatDoor
namespace Go.Proofs.YtfmgdmeopakdaaaGreatDoor
open Go Go.RowKit Go.ChangeShapes Go.WideShapes Go.ChangeAt
theorem allR_ints:∀ {ys:List Int} {xs:List Value},AllR (fun (n:Int) cs=>cs=[.int .i64 n]) ys xs→xs=ys.map (.int .i64)
  | [],xs,h=>h
  | y :: ys,xs,h=>by
    obtain ⟨c1,c2,rfl,rfl,h2⟩:=h;rw [allR_ints h2];rfl
theorem cells_int:Tryz.prog.cellsOf 3=1:=by kernel_rfl
section
variable {H:Type} {enc:TypeId×Value→H} {w:World} {sp:Nat→Bool} {held:Bool}
theorem read_ints {v:Value} {d:DataW H} {ps:List MemPlace} {fuel:Nat} (h:DataW.trod enc Tryz.prog w 0 sp held fuel 38 [v]=some (d,ps)) (hw:∀ n ∈ d.weights Tryz.prog 38,n≤reachBytes) :
    ∃ l:List Int,Row w (fun b=>b<w.heap.size) 1 v l.length (l.map (.int .i64)):=by
  obtain ⟨v4,ns,x4,e4,R4,A4,-⟩:=read_slice (Q:=fun (n:Int) cs=>cs=[.int .i64 n]) Tryz.underlying38 cells_int (by omega) h hw fun _ _ _ _ g _=>by
    obtain ⟨n,h1,-⟩:=DataW.trod_int Tryz.underlying3 g;exact ⟨n,h1⟩
  rw [allR_ints A4] at R4;cases e4;exact ⟨ns,R4⟩
end
end Go.Proofs.YtfmgdmeopakdaaaGreatDoor
