/- PaD: parts of one proof. -/
import Derived.RangeFuncNested
import Derived.RangeFuncBound
import Derived.RangeFuncCalls
import Derived.RangeFuncLeaves
import Derived.Shelf.Abstract
import Derived.Shelf.RegionOpen
import Derived.WalkKit
import Derived.OwnWalkIn
import Derived.TacticsInMore
import Derived.LoopNIn
import Derived.LoopIn
import Derived.RangeFuncBox
import Derived.RangeFuncFrom
import Derived.Laws.EntriesVeiled
import Derived.Test.YtfmgdmeopakdaaaGreatDoorMB1
set_option linter.unusedVariables false
set_option linter.unusedSimpArgs false
namespace Go.Proofs.YtfmgdmeopakdaaaGreatDoor
open Go Go.RowKit Go.Shelf
attribute [local go_sem] Oper.semAt_some
theorem No.ind {P:No→Prop} (h:∀ k fr to_ tx ks,(∀ x ∈ ks,P x)→P (.mk k fr to_ tx ks)):∀ n,P n
  | .mk k fr to_ tx ks=>h k fr to_ tx ks fun x hx=>No.ind h x
mutual
def dseq (d:Int):No→List Int
  | .mk _ _ _ _ ks=>d :: dseqs (wrap64 (d+1)) ks
def dseqs (d:Int):List No→List Int
  | []=>[]
  | t :: ts=>dseq d t ++ dseqs d ts
end
theorem dseqs_app (d:Int):∀ (l m:List No),dseqs d (l ++ m)=dseqs d l ++ dseqs d m
  | [],m=>by simp [dseqs]
  | t :: ts,m=>by simp [dseqs,dseqs_app d ts m]
theorem dseqs_take {d:Int} {l:List No} {j:Nat} (h:j<l.length):dseqs d (l.take (j+1))=dseqs d (l.take j) ++ dseq d l[j]:=by
  rw [List.take_succ_eq_append_getElem h,dseqs_app];simp [dseqs]
theorem dseqs_take_le {d:Int} {l:List No} {j:Nat}:(dseqs d (l.take j)).length≤(dseqs d l).length:=by
  conv=>rhs;rw [← List.take_append_drop j l,dseqs_app]
  simp
def KpD (n₀ mb:Nat) (W W':World):Prop:=
  W.heap.size≤W'.heap.size∧∀ b,b<W.heap.size→b≠mb→(b<n₀∨∃ o,W.heap[b]? = some o∧o.isCells=true)→W'.heap[b]? = W.heap[b]?
section
variable {n₀ mb:Nat} {W W' U:World}
theorem KpD.refl (W:World):KpD n₀ mb W W:=⟨Nat.le_refl _,fun _ _ _ _=>rfl⟩
theorem KpD.trans (h:KpD n₀ mb W W') (k:KpD n₀ mb W' U):KpD n₀ mb W U:=⟨Nat.le_trans h.1 k.1,fun b h1 h2 h3=>by
  have e:=h.2 b h1 h2 h3;rw [← e];refine k.2 b (Nat.lt_of_lt_of_le h1 h.1) h2 (h3.imp id ?_);rintro ⟨o,h4,h5⟩
  exact ⟨o,e.trans h4,h5⟩⟩
theorem KpD.put {l:Nat} {o o':Obj} (hl:n₀≤l) (h:W.heap[l]? = some o) (ho:o.isCells=false):KpD n₀ mb W (W.putObj l o'):=by
  refine ⟨by simp [World.putObj],fun b h1 h2 h3=>World.putObj_heap_other (fun e=>?_)⟩;subst e;rcases h3 with h3 | ⟨o2,h4,h5⟩
  · omega
  · rw [h] at h4;cases h4;rw [ho] at h5;cases h5
theorem KpD.below (h:Below W.heap.size W W'):KpD n₀ mb W W':=⟨h.size,fun b hb _ _=>h.block b hb⟩
theorem KpD.box {B:Nat} {t:TypeId} {v:Value} (h:KpD n₀ mb W W') (hb:Boxed W B t v) (hm:B≠mb):Boxed W' B t v:=
  (h.2 B hb.lt hm (.inr ⟨_,hb,rfl⟩)).trans hb
theorem KpD.same (h:KpD n₀ mb W W') (h0:n₀≤W.heap.size):SameOn (fun b=>b<n₀∧b≠mb) W W':=fun b hb=>h.2 b (Nat.lt_of_lt_of_le hb.1 h0) hb.2 (.inl hb.1)
end
section
variable {w:World} {S:Nat→Prop} {v:Value} {l:List No}
theorem RowN.cellsD (h:RowN w S v l) {j:Nat} (hj:j<l.length):∃ g o cap A c,v = .slice (some ⟨g,o,none⟩) l.length cap∧S g∧w.cell? ⟨g,o+j * 5,none⟩=some (.int .i64 l[j].k)∧w.cell? ⟨g,o+j * 5+1,none⟩=some (.int .i64 l[j].fr)∧w.cell? ⟨g,o+j * 5+2,none⟩=some (.int .i64 l[j].to)∧w.cell? ⟨g,o+j * 5+3,none⟩=some (.string l[j].tx)∧
    w.cell? ⟨g,o+j * 5+4,none⟩=some (.slice A l[j].ks.length c)∧NoR w S l[j] [.int .i64 l[j].k,.int .i64 l[j].fr,.int .i64 l[j].to,.string l[j].tx,.slice A l[j].ks.length c]:=by
  obtain ⟨xs,⟨h1,B,cap,hsl,h2,h3,h0,h4⟩,hn⟩:=h;obtain ⟨g,o,rfl,hSb,hcc⟩:=h4 (by omega);have hx:=hn.at_ j hj;obtain ⟨A,c,hc,-⟩:=hx.forms
  have hk:∀ k u,[Value.int .i64 l[j].k,.int .i64 l[j].fr,.int .i64 l[j].to,.string l[j].tx,.slice A l[j].ks.length c][k]? = some u→k<5→w.cell? ⟨g,o+j * 5+k,none⟩=some u:=by
    intro k u hu hk;rw [← hc,List.getElem?_take,if_pos hk,List.getElem?_drop] at hu;rw [Nat.add_assoc];exact hcc _ _ hu
  exact ⟨g,o,cap,A,c,hsl,hSb,hk 0 _ rfl (by decide),hk 1 _ rfl (by decide),hk 2 _ rfl (by decide),hk 3 _ rfl (by decide),hk 4 _ rfl (by decide),hc ▸ hx⟩
end
set_option maxRecDepth 100000 in
set_option maxHeartbeats 4000000 in
theorem walkIx (l B2 B3 n₀ mb N:Nat) (h2:B2≠mb) (h3:B3≠mb) (h23:B2≠B3) (J Jx:List (Int×Value)→World→Prop)
    (hY:∀ m pre x W,J pre W→pre.length<N→YieldAt Fence.wide m Tryz.prog l #[.int .i64 x.1,x.2] W fun e W'=>
      (e = .returned (.bool true)∧J (pre ++ [x]) W'∧KpD n₀ mb W W')∨(e = .returned (.bool false)∧Jx (pre ++ [x]) W'))
    (hJ:∀ s W W',J s W→W.grownBy W' none→J s W') (n:No) :
    ∀ (m:Nat) (d:Int) (pre:List (Int×Value)) (cs:List Value) (W:World),n₀≤W.heap.size→mb<W.heap.size→NoR W (fun b=>b<n₀∧b≠mb) n cs→
      Boxed W B2 94 (.func (.yield l) #[] #[])→Boxed W B3 94 (.func (.func 85) #[] #[.pointer (some ⟨B2,0,none⟩),.pointer (some ⟨B3,0,none⟩)])→
      J pre W→pre.length+(dseq d n).length≤N→
      CallsIn Fence.wide m Tryz.prog 85 #[.int .i64 d,.agg cs.toArray,.pointer (some ⟨B2,0,none⟩),.pointer (some ⟨B3,0,none⟩)] W fun e W'=>
        (e = .returned (.bool true)∧(∃ xs,xs.map (fun x=>x.1)=dseq d n∧J (pre ++ xs) W')∧KpD n₀ mb W W')∨(e = .returned (.bool false)∧∃ q,Jx q W'):=by
  induction n using No.ind with
  | h k fr to_ tx ks ih=>
  intro m d pre cs W hn0 hmb hN hb2 hb3 hJ0 hlen;obtain ⟨A,c,rfl,hrow⟩:=hN.forms;have IH:=zh ih;have HR:=zh hrow;have HY:=zh hY;have HJ:=zh hJ;have HJ0:=zh hJ0;have HLEN:=zh hlen
  have hks:(ks.length:Int)≤9223372036854775807:=by
    obtain ⟨xs,hr,-⟩:=hrow;obtain ⟨_,_,_,h9⟩:=hr.form;have h8:ks.length≤9223372036854775807:=h9;omega
  clear ih hrow hY hJ hJ0 hlen hN;simp only [No.k,No.fr,No.to,No.tx,No.ks] at *;refine callsIn_of_wp Tryz.func85 rfl trivial ?_ rfl;simp only [Tryz.ntmps85,List.size_toArray,List.length_cons,List.length_nil,Nat.reduceAdd,Nat.reduceSub,Array.replicate_succ,Array.replicate_zero,List.push_toArray,List.append_toArray,List.nil_append,List.cons_append];have c2:=(hb2.alloc (.cells #[.int .i64 k,.int .i64 fr,.int .i64 to_,.string tx,.slice A ks.length c] 25)).cell;have hl2:=hb2.lt;have hl3:=hb3.lt;have W1e:Hid (J pre (W.alloc (.cells #[.int .i64 k,.int .i64 fr,.int .i64 to_,.string tx,.slice A ks.length c] 25))):=zh (HJ.out _ _ _ HJ0.out (World.grownBy_alloc W _ none));obtain ⟨fn,tmps,assign,body,hy,hR⟩:=HY.out (m - 1) pre (d,.agg #[.int .i64 k,.int .i64 fr,.int .i64 to_,.string tx,.slice A ks.length c]) _ W1e.out (by have:=HLEN.out;simp [dseq] at this;omega);dsimp only at hy
  gi_wp2
  refine ⟨fun h=>absurd h (by simp [Fence.wide]),hR.mono ?_⟩;rintro e W3 (⟨rfl,hJ3,hk3⟩ | ⟨rfl,hJx3⟩)
  · have HJ3:=zh hJ3
    have hz3:=hk3.1;simp at hz3;have hka:KpD n₀ mb W W3:=(KpD.below ((Below.refl _ W).alloc (Nat.le_refl _) _)).trans hk3;have b2:=hka.box hb2 h2;have b3:=hka.box hb3 h3;have hR3:=zh (HR.out.keep (hka.same hn0) fun _ h=>h);have hK3:=zh hka;have hb5:Boxed W3 B2 94 (.func (.yield l) #[] #[]):=b2
    have h54:W3.cell? ⟨W.heap.size,4,none⟩=some (.slice A ks.length c):=by
      have hB:=Blk.new W 25 #[.int .i64 k,.int .i64 fr,.int .i64 to_,.string tx,.slice A ks.length c];have h5:W3.heap[W.heap.size]? = some (.cells #[.int .i64 k,.int .i64 fr,.int .i64 to_,.string tx,.slice A ks.length c] 25 (0,0)):=(hk3.2 _ (by simp) (by omega) (.inr ⟨_,hB,rfl⟩)).trans hB;exact Blk.cell h5 4
    have HB2:=zh hb2;have HB3:=zh hb3;clear hJ3 hy hR hk3 hka b2 b3 hb5 hR3 c2 W1e hb2 hb3
    gi_wp2
    gi_loopw [17] (fun i wr=>∃ (j:Nat) (xs:List (Int×Value)),j≤ks.length∧i = .int .i64 j∧Hid (xs.map (fun x=>x.1)=d :: dseqs (wrap64 (d+1)) (ks.take j))∧Hid (J (pre ++ xs) wr)∧Hid (KpD n₀ mb W wr)) (fun i _=>ks.length - (intOf i).toNat)
    case atStart=>exact ⟨0,_,Nat.zero_le _,rfl,zh (by simp [dseqs]),HJ3,hK3⟩
    case round=>
      obtain ⟨j,xs,hj,rfl,HX,HJJ,HK⟩:=hrel;by_cases hlt:j<ks.length
      · have hrj:=(HR.out.keep (HK.out.same hn0) fun _ h=>h).cellsD hlt
        obtain ⟨g,o,cap,A2,c2,hv,hg,q0,q1,q2,q3,q4,hnj⟩:=hrj;cases hv;have hzw:=HK.out.1;have b2:=HK.out.box HB2.out h2;have b3:=HK.out.box HB3.out h3;have c3:=(b3.alloc (.cells #[.int .i64 ks[j].k,.int .i64 ks[j].fr,.int .i64 ks[j].to,.string ks[j].tx,.slice A2 ks[j].ks.length c2] 25)).cell;have hkw:KpD n₀ mb W (wr.alloc (.cells #[.int .i64 ks[j].k,.int .i64 ks[j].fr,.int .i64 ks[j].to,.string ks[j].tx,.slice A2 ks[j].ks.length c2] 25)):=HK.out.trans (KpD.below ((Below.refl _ wr).alloc (Nat.le_refl _) _))
        have hc:=IH.out ks[j] (List.getElem_mem hlt) (m - 1) (wrap64 (d+1)) (pre ++ xs) _ (wr.alloc (.cells #[.int .i64 ks[j].k,.int .i64 ks[j].fr,.int .i64 ks[j].to,.string ks[j].tx,.slice A2 ks[j].ks.length c2] 25)) (by simp;omega) (by simp;omega)
          (hnj.keep ((KpD.below ((Below.refl _ wr).alloc (Nat.le_refl _) _)).same (mb:=mb) (by omega)) fun _ h=>h) (b2.alloc _) (b3.alloc _) (HJ.out _ _ _ HJJ.out (World.grownBy_alloc wr _ none)) (by
            have h8:=HLEN.out;have h9:=congrArg List.length HX.out;have h10:=dseqs_take (d:=wrap64 (d+1)) hlt;have h11:=dseqs_take_le (d:=wrap64 (d+1)) (l:=ks) (j:=j+1);rw [h10] at h11;simp [dseq] at h8 h9 h11 ⊢
            omega)
        (have hjl:(j:Int)<(ks.length:Int):=by omega);(have hj0:(0:Int)≤(j:Int):=by omega);have HKW:=zh hkw;have HXJ:Hid (dseqs (wrap64 (d+1)) (ks.take (j+1))=dseqs (wrap64 (d+1)) (ks.take j) ++ dseq (wrap64 (d+1)) ks[j]):=zh (dseqs_take hlt);clear hnj hkw b2 b3
        gi_wp2
        refine ⟨trivial,fun h=>absurd h (by simp [Fence.wide]),hc.mono ?_⟩;clear hc;rintro e W4 (⟨rfl,⟨ys,hy1,hy2⟩,hk4⟩ | ⟨rfl,q,hq⟩)
        · have HY1:=zh hy1
          have HY2:=zh hy2;have HK4:=zh (HKW.out.trans hk4);clear hy1 hy2 hk4
          gi_wp2
          go_roundw
          case rel=>exact ⟨j+1,xs ++ ys,by omega,rfl,zh (by rw [List.map_append,HX.out,HY1.out,HXJ.out];rfl),zh (by rw [← List.append_assoc];exact HY2.out),HK4⟩
          case measure=>simp [intOf];omega
        · gi_wp2
          go_ret;exact .inr ⟨rfl,_,hq⟩
      · obtain rfl:j=ks.length:=by omega
        gi_wp2
        go_ret;exact .inl ⟨rfl,⟨xs,by rw [HX.out,List.take_length];rfl,HJJ.out⟩,HK.out⟩
  · gi_wp2
    go_ret;exact .inr ⟨rfl,_,hJx3⟩
theorem grown_below {W W':World} (h:Below W.heap.size W W'):W.grownBy W' none:=⟨h.os,h.tape,h.output,h.size,fun k hk _=>h.block k hk⟩
theorem KpD.set {n₀ mb:Nat} {W:World} (v:Value):KpD n₀ mb W (W.setCell ⟨mb,0,none⟩ v):=⟨by simp,fun b _ h2 _=>Below.heap_setCell W ⟨mb,0,none⟩ v b h2⟩
set_option maxRecDepth 100000 in
set_option maxHeartbeats 2000000 in
theorem all_stops (m Bn n₀ mb:Nat) (n:No) (cs:List Value) (w:World) (hn0:n₀≤w.heap.size) (hmb:mb<w.heap.size) (hBm:Bn≠mb) (hB:Blk w Bn 25 cs.toArray) (hN:NoR w (fun b=>b<n₀∧b≠mb) n cs) :
    SeqStopsK Fence.wide m Tryz.prog 84 #[.pointer (some ⟨Bn,0,none⟩)] (fun x:Int×Value=>#[.int .i64 x.1,x.2]) (KpD n₀ mb) (fun xs=>xs.map (fun x=>x.1)=dseq 0 n) (fun _=>True) (dseq 0 n).length w:=by
  intro l J Jx W hW hJ hJx hY h0;have hmf:∀ (fn:Fn) (first cap:Array Value) (w:World),(Instr.makeFunc fn first cap).run Tryz.prog w = .ok (.func fn first cap) w:=fun _ _ _ _=>rfl;have hsz:=hW.size;have hBW:Blk W Bn 25 cs.toArray:=hB.below hW hB.lt;have hNW:NoR W (fun b=>b<n₀∧b≠mb) n cs:=hN.keep (SameOn.of_below hW fun b hb=>Nat.lt_of_lt_of_le hb.1 hn0) fun _ h=>h;obtain ⟨A,c,rfl,-⟩:=hN.forms;obtain ⟨W2,hW2⟩:∃ W2,((W.alloc (.cells #[.func (.yield l) #[] #[]] 94)).alloc (.cells #[.nilFunc] 94)).setCell ⟨W.heap.size+1,0,none⟩ (.func (.func 85) #[] #[.pointer (some ⟨W.heap.size,0,none⟩),.pointer (some ⟨W.heap.size+1,0,none⟩)])=W2:=⟨_,rfl⟩
  have hb2:Below W.heap.size W W2:=by
    rw [← hW2];exact (((Below.refl _ W).alloc (Nat.le_refl _) _).alloc (by simp) _).setCell (p:=⟨W.heap.size+1,0,none⟩) (Nat.le_succ _) _
  have x3:Boxed W2 (W.heap.size+1) 94 (.func (.func 85) #[] #[.pointer (some ⟨W.heap.size,0,none⟩),.pointer (some ⟨W.heap.size+1,0,none⟩)]):=by
    rw [← hW2];have:=Boxed.new (W.alloc (.cells #[.func (.yield l) #[] #[]] 94)) 94 .nilFunc;rw [World.size_alloc] at this;exact this.set _
  have x2:Boxed W2 W.heap.size 94 (.func (.yield l) #[] #[]):=by
    rw [← hW2];exact ((Boxed.new W _ _).alloc _).other (by omega) _
  have hz2:=hb2.size;have c3:=x3.cell;obtain ⟨n0,n1,n2,n3,n4,nf,nl⟩:=(hBW.below hb2 hBW.lt).cells5
  have hc:=walkIx l W.heap.size (W.heap.size+1) n₀ mb (dseq 0 n).length (by omega) (by omega) (by omega) J Jx (fun m pre x W hj hl=>by
      obtain ⟨fn,tmps,assign,body,hy,hR⟩:=hY pre x W hj hl
      exact ⟨fn,tmps,assign,body,hy,hR.1,fun c cs _=>hR.2 c cs (fun d h=>by simp [Fence.wide] at h)⟩)
    (fun s A B hs hg=>hJ s A B none hs hg (fun r e=>by cases e)) n (m - 1) 0 [] _ W2 (by omega) (by omega) (hNW.keep (SameOn.of_below hb2 fun b hb=>by have:=hb.1;omega) fun _ h=>h) x2 x3 (hJ [] W W2 none h0 (grown_below hb2) (fun r e=>by cases e)) (by simp)
  have HC:=zh hc;clear hc hY hJ hJx hW hN hNW hB hBW x2 x3;have y3:=Boxed.new (W.alloc (.cells #[.func (.yield l) #[] #[]] 94)) 94 .nilFunc;rw [World.size_alloc] at y3;have yc:=y3.cell;have yf:=y3.frozen;clear y3;have HC2:=zh (callsIn_wide.1 HC.out);clear HC;refine callsIn_wide.2 ?_;go_enter Tryz.func84,Tryz.ntmps84;go_wp2_with fail;refine HC2.out.mono ?_;rintro e W4 (⟨rfl,⟨ys,hy1,hy2⟩,hk4⟩ | ⟨rfl,q,hq⟩)
  · go_wp2_with fail
    go_end0
    exact ⟨⟨_,rfl⟩,.inl ⟨ys,hy1,by simpa using hy2⟩⟩
  · go_wp2_with fail
    go_end0
    exact ⟨⟨_,rfl⟩,.inr ⟨q,trivial,hq⟩⟩
def depM (l:List Int):Int:=l.foldl (fun m d=>if m<wrap64 (d+1) then wrap64 (d+1) else m) 0
def depW (n:No):Int:=depM (dseq 0 n)
theorem all_in {cs:Array Value} {w:World}:Calls Tryz.prog 65 #[.agg cs] w fun e w'=>e = .returned (.func (.func 84) #[] #[.pointer (some ⟨w.heap.size,0,none⟩)])∧w'=w.alloc (.cells cs 25):=by
  have hmf:∀ (fn:Fn) (first cap:Array Value) (w:World),(Instr.makeFunc fn first cap).run Tryz.prog w = .ok (.func fn first cap) w:=fun _ _ _ _=>rfl;go_enter Tryz.func65,Tryz.ntmps65;go_wp2_with fail;go_ret;exact ⟨rfl,rfl⟩
set_option maxRecDepth 100000 in
set_option maxHeartbeats 4000000 in
theorem depth_calls {n:No} {cs:List Value} {w:World} (hN:NoR w (fun b=>b<w.heap.size) n cs) :
    Calls Tryz.prog 33 #[.agg cs.toArray] w fun e w'=>e = .returned (.int .i64 (depW n))∧Below w.heap.size w w':=by
  obtain ⟨A,c,rfl,-⟩:=hN.forms;have HN:=zh hN;clear hN;refine callsIn_wide (n:=10).1 ?_;refine callsIn_of_wp_marks Tryz.func33 rfl trivial ?_ rfl;simp only [Tryz.ntmps33,List.size_toArray,List.length_cons,List.length_nil,Nat.reduceAdd,Nat.reduceSub,Array.replicate_succ,Array.replicate_zero,List.push_toArray,List.append_toArray,List.nil_append,List.cons_append];refine wpIn_wide.2 ?_;go_wp2_with fail;refine all_in.mono ?_;rintro e w1 ⟨rfl,rfl⟩;obtain ⟨cv,hcv⟩:∃ cv:Array Value,#[.int .i64 n.k,.int .i64 n.fr,.int .i64 n.to,.string n.tx,.slice A n.ks.length c]=cv:=⟨_,rfl⟩;have hBn:Blk (((w.alloc (.cells cv 25)).alloc (.cells #[.int .i64 0] 3)).alloc (.cells cv 25)) (w.heap.size+2) 25 cv:=Blk.new' (by simp);have hB0:Below w.heap.size w (((w.alloc (.cells cv 25)).alloc (.cells #[.int .i64 0] 3)).alloc (.cells cv 25)):=(((Below.refl _ w).alloc (Nat.le_refl _) _).alloc (by simp) _).alloc (by simp;omega) _
  have hM:Boxed (((w.alloc (.cells cv 25)).alloc (.cells #[.int .i64 0] 3)).alloc (.cells cv 25)) (w.heap.size+1) 3 (.int .i64 0):=by
    have:=Boxed.new (w.alloc (.cells cv 25)) 3 (.int .i64 0);rw [World.size_alloc] at this;exact this.alloc _
  (have hsz:(((w.alloc (.cells cv 25)).alloc (.cells #[.int .i64 0] 3)).alloc (.cells cv 25)).heap.size=w.heap.size+3:=by simp);rw [hcv]
  generalize hWl:((w.alloc (.cells cv 25)).alloc (.cells #[.int .i64 0] 3)).alloc (.cells cv 25)=Wl at *
  clear hWl;go_wp2_with fail
  refine wpIn_wide.1 (wpIn_rangeFunc_ownF (F:=Fence.wide) (n:=10) rfl (by omega) (gf:=84) (lb:=#[.pointer (some ⟨w.heap.size+1+1,0,none⟩)]) rfl trivial (enters_of Tryz.func84 (by kernel_rfl) rfl)
    (all_stops 9 (w.heap.size+1+1) w.heap.size (w.heap.size+1) n [.int .i64 n.k,.int .i64 n.fr,.int .i64 n.to,.string n.tx,.slice A n.ks.length c] Wl (by omega) (by omega) (by omega) (by rw [List.toArray_cons] at *;exact hcv ▸ hBn)
      (HN.out.keep (SameOn.of_below hB0 fun _ h=>h) fun b hb=>⟨hb,by omega⟩)) (fun h k=>h.trans k) (fun W l o o' h1 h2 h3 _=>KpD.put (by omega) h2 h3) (Below.refl _ _) (fun _=>rfl)
    (fun pre W=>Boxed W (w.heap.size+1) 3 (.int .i64 (depM (pre.map fun x=>x.1)))∧Below w.heap.size w W) (fun _ _ _=>False)
    (OwnFrom.and (Own.from (boxed_own _ _ _) _) (ownFrom_below (Nat.le_refl _) (by omega)))
    (fun _ _ _ _ _ hs _ _=>hs)
    ⟨hM,hB0⟩
    (fun x=>{ tmps:=#[.agg cv,.pointer (some ⟨w.heap.size,0,none⟩),.int .i64 0,.pointer (some ⟨w.heap.size+1,0,none⟩),.int .i64 x.1,.agg cv,.func (.func 84) #[] #[.pointer (some ⟨w.heap.size+1+1,0,none⟩)],.int .i64 x.1,x.2,undef,undef,undef,undef,undef],defers:=[] }) ?assign ?body ?done ?stop)
  case assign=>
    intro l x W K hK
    gi_wp2
    exact hK
  case body=>
    rintro l pre x W ⟨hb,hB⟩ _;have hc:=hb.cell;have hf:=hb.frozen
    have hsn:depM ((pre ++ [x]).map fun x=>x.1)=if depM (pre.map fun x=>x.1)<wrap64 (x.1+1) then wrap64 (x.1+1) else depM (pre.map fun x=>x.1):=by
      unfold depM;rw [List.map_append,List.foldl_append];rfl
    have HSN:=zh hsn;clear hsn
    gi_wp2
    · rename_i h
      exact ⟨(KeepsOthers.setCell _ _ _),KpD.set _,by rw [HSN.out,if_pos h];exact hb.set _,hB.setCell (p:=⟨w.heap.size+1,0,none⟩) (Nat.le_succ _) _⟩
    · rename_i h
      exact ⟨(KeepsOthers.setCell _ _ _),KpD.set _,by rw [HSN.out,if_neg (by omega)];exact hb.set _,hB.setCell (p:=⟨w.heap.size+1,0,none⟩) (Nat.le_succ _) _⟩
  case done=>
    rintro D ys W hD hys ⟨hb,hB⟩ hK;have hc:=hb.cell;go_wp2_with fail;refine ⟨by simp,.inl ⟨_,_,rfl,run_takeDeferred hK,?_⟩⟩;exact ⟨_,results_tmp rfl _ _ _,rfl,hB.trans (belowK_b (w:=w) (Nat.le_refl _) W D _ _ (by omega) hK rfl rfl)⟩
  case stop=>
    rintro D c pre W _ _ h _;exact h.elim
end Go.Proofs.YtfmgdmeopakdaaaGreatDoor
