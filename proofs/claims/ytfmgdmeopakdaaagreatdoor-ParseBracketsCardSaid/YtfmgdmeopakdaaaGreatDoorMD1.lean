/- Parts of one proof. -/
import Derived.RangeFuncNested
import Derived.RangeFuncBound
import Derived.RangeFuncCalls
import Derived.RangeFuncLeaves
import Derived.Shelf.Abstract
import Derived.Shelf.RegionOpen
import Derived.WalkKit
import Derived.OwnWalkIn
import Derived.TacticsInMore
import Derived.LoopNIn
import Derived.LoopIn
import Derived.RangeFuncBox
import Derived.RangeFuncFrom
import Derived.Laws.EntriesVeiled
import Derived.Test.YtfmgdmeopakdaaaGreatDoorMB1
set_option linter.unusedVariables false
set_option linter.unusedSimpArgs false
namespace Go.Proofs.YtfmgdmeopakdaaaGreatDoor
open Go Go.RowKit Go.Shelf Tryz
attribute [local go_sem] Oper.semAt_some
theorem No.ind {P:No→Prop} (h:∀ k fr to_ tx ks,(∀ x ∈ ks,P x)→P (.mk k fr to_ tx ks)):∀ n,P n
  | .mk k fr to_ tx ks=>h k fr to_ tx ks fun x hx=>No.ind h x
mutual
def qs (d:Int):No→List Int
  | .mk _ _ _ _ ks=>d :: iN (wrap64 (d+1)) ks
def iN (d:Int):List No→List Int
  | []=>[]
  | t :: ts=>qs d t ++ iN d ts
end
theorem sK (d:Int):∀ (l m:List No),iN d (l ++ m)=iN d l ++ iN d m
  | [],m=>by simp [iN]
  | t :: ts,m=>by simp [iN,sK d ts m]
theorem vU {d:Int} {l:List No} {j:Nat} (h:j<l.length):iN d (l.take (j+1))=iN d (l.take j) ++ qs d l[j]:=by
  rw [List.take_succ_eq_append_getElem h,sK];simp [iN]
theorem xt {d:Int} {l:List No} {j:Nat}:(iN d (l.take j)).length≤(iN d l).length:=by
  conv=>rhs;rw [← List.take_append_drop j l,sK]
  simp
def si (n₀ mb:Nat) (W W':World):Prop:=
  W.heap.size≤W'.heap.size∧∀ b,b<W.heap.size→b≠mb→(b<n₀∨∃ o,W.heap[b]? = some o∧o.isCells=true)→W'.heap[b]? = W.heap[b]?
section
variable {n₀ mb:Nat} {W W' U:World}
theorem si.refl (W:World):si n₀ mb W W:=⟨Nat.le_refl _,fun _ _ _ _=>rfl⟩
theorem si.trans (h:si n₀ mb W W') (k:si n₀ mb W' U):si n₀ mb W U:=⟨Nat.le_trans h.1 k.1,fun b h1 h2 h3=>by
  have e:=h.2 b h1 h2 h3;rw [← e];refine k.2 b (Nat.lt_of_lt_of_le h1 h.1) h2 (h3.imp id ?_);rintro ⟨o,h4,h5⟩
  exact ⟨o,e.trans h4,h5⟩⟩
theorem si.put {l:Nat} {o o':Obj} (hl:n₀≤l) (h:W.heap[l]? = some o) (ho:o.isCells=false):si n₀ mb W (W.putObj l o'):=by
  refine ⟨by simp [World.putObj],fun b h1 h2 h3=>World.putObj_heap_other (fun e=>?_)⟩;subst e;rcases h3 with h3 | ⟨o2,h4,h5⟩
  · omega
  · rw [h] at h4;cases h4;rw [ho] at h5;cases h5
theorem si.below (h:Below W.heap.size W W'):si n₀ mb W W':=⟨h.size,fun b hb _ _=>h.block b hb⟩
theorem si.box {B:Nat} {t:TypeId} {v:Value} (h:si n₀ mb W W') (hb:Boxed W B t v) (hm:B≠mb):Boxed W' B t v:=
  (h.2 B hb.lt hm (.inr ⟨_,hb,rfl⟩)).trans hb
theorem si.same (h:si n₀ mb W W') (h0:n₀≤W.heap.size):aI (fun b=>b<n₀∧b≠mb) W W':=fun b hb=>h.2 b (Nat.lt_of_lt_of_le hb.1 h0) hb.2 (.inl hb.1)
end
section
variable {w:World} {S:Nat→Prop} {v:Value} {l:List No}
theorem aQ.cellsD (h:aQ w S v l) {j:Nat} (hj:j<l.length):∃ g o cap A c,v = .slice (some ⟨g,o,none⟩) l.length cap∧S g∧w.cell? ⟨g,o+j * 5,none⟩=some (.int .i64 l[j].k)∧w.cell? ⟨g,o+j * 5+1,none⟩=some (.int .i64 l[j].fr)∧w.cell? ⟨g,o+j * 5+2,none⟩=some (.int .i64 l[j].to)∧w.cell? ⟨g,o+j * 5+3,none⟩=some (.string l[j].tx)∧
    w.cell? ⟨g,o+j * 5+4,none⟩=some (.slice A l[j].ks.length c)∧bG w S l[j] [.int .i64 l[j].k,.int .i64 l[j].fr,.int .i64 l[j].to,.string l[j].tx,.slice A l[j].ks.length c]:=by
  obtain ⟨xs,⟨h1,B,cap,LW,h2,h3,h0,h4⟩,hn⟩:=h;obtain ⟨g,o,rfl,R',GZ⟩:=h4 (by omega);have hx:=hn.at_ j hj;obtain ⟨A,c,hc,-⟩:=hx.forms
  have hk:∀ k u,[Value.int .i64 l[j].k,.int .i64 l[j].fr,.int .i64 l[j].to,.string l[j].tx,.slice A l[j].ks.length c][k]? = some u→k<5→w.cell? ⟨g,o+j * 5+k,none⟩=some u:=by
    intro k u hu hk;rw [← hc,List.getElem?_take,if_pos hk,List.getElem?_drop] at hu;rw [Nat.add_assoc];exact GZ _ _ hu
  exact ⟨g,o,cap,A,c,LW,R',hk 0 _ rfl (by decide),hk 1 _ rfl (by decide),hk 2 _ rfl (by decide),hk 3 _ rfl (by decide),hk 4 _ rfl (by decide),hc ▸ hx⟩
end
set_option maxRecDepth 100000 in
set_option maxHeartbeats 4000000 in
theorem Om (l B2 B3 n₀ mb N:Nat) (h2:B2≠mb) (h3:B3≠mb) (h23:B2≠B3) (J Jx:List (Int×Value)→World→Prop)
    (hY:∀ m pre x W,J pre W→pre.length<N→YieldAt Fence.wide m prog l #[.int .i64 x.1,x.2] W fun e W'=>
      (e = .returned (.bool true)∧J (pre ++ [x]) W'∧si n₀ mb W W')∨(e = .returned (.bool false)∧Jx (pre ++ [x]) W'))
    (hJ:∀ s W W',J s W→W.grownBy W' none→J s W') (n:No) :
    ∀ (m:Nat) (d:Int) (pre:List (Int×Value)) (cs:List Value) (W:World),n₀≤W.heap.size→mb<W.heap.size→bG W (fun b=>b<n₀∧b≠mb) n cs→
      Boxed W B2 94 (.func (.yield l) #[] #[])→Boxed W B3 94 (.func (.func 85) #[] #[.pointer (some ⟨B2,0,none⟩),.pointer (some ⟨B3,0,none⟩)])→
      J pre W→pre.length+(qs d n).length≤N→
      CallsIn Fence.wide m prog 85 #[.int .i64 d,.agg cs.toArray,.pointer (some ⟨B2,0,none⟩),.pointer (some ⟨B3,0,none⟩)] W fun e W'=>
        (e = .returned (.bool true)∧(∃ xs,xs.map (fun x=>x.1)=qs d n∧J (pre ++ xs) W')∧si n₀ mb W W')∨(e = .returned (.bool false)∧∃ q,Jx q W'):=by
  induction n using No.ind with
  | h k fr to_ tx ks ih=>
  intro m d pre cs W ud hmb hN cK jG Zd eN;obtain ⟨A,c,rfl,ae⟩:=hN.forms;have IH:=zh ih;have HR:=zh ae;have HY:=zh hY;have HJ:=zh hJ;have HJ0:=zh Zd;have Ue:=zh eN
  have hks:(ks.length:Int)≤9223372036854775807:=by
    obtain ⟨xs,hr,-⟩:=ae;obtain ⟨_,_,_,h9⟩:=hr.form;have h8:ks.length≤9223372036854775807:=h9;omega
  clear ih ae hY hJ Zd eN hN;simp only [No.k,No.fr,No.to,No.tx,No.ks] at *;refine callsIn_of_wp func85 rfl trivial ?_ rfl;simp only [ntmps85,List.size_toArray,List.length_cons,List.length_nil,Nat.reduceAdd,Nat.reduceSub,Array.replicate_succ,Array.replicate_zero,List.push_toArray,List.append_toArray,List.nil_append,List.cons_append];have c2:=(cK.alloc (.cells #[.int .i64 k,.int .i64 fr,.int .i64 to_,.string tx,.slice A ks.length c] 25)).cell;have kB:=cK.lt;have D9:=jG.lt;have Zu:Hd (J pre (W.alloc (.cells #[.int .i64 k,.int .i64 fr,.int .i64 to_,.string tx,.slice A ks.length c] 25))):=zh (HJ.o _ _ _ HJ0.o (World.grownBy_alloc W _ none));obtain ⟨fn,tmps,assign,body,hy,hR⟩:=HY.o (m - 1) pre (d,.agg #[.int .i64 k,.int .i64 fr,.int .i64 to_,.string tx,.slice A ks.length c]) _ Zu.o (by have:=Ue.o;simp [qs] at this;omega);dsimp only at hy
  gi_wp2
  refine ⟨fun h=>absurd h (by simp [Fence.wide]),hR.mono ?_⟩;rintro e W3 (⟨rfl,Zc,GW⟩ | ⟨rfl,Xq⟩)
  · have HJ3:=zh Zc
    have fK:=GW.1;simp at fK;have RA:si n₀ mb W W3:=(si.below ((Below.refl _ W).alloc (Nat.le_refl _) _)).trans GW;have b2:=RA.box cK h2;have b3:=RA.box jG h3;have Ij:=zh (HR.o.keep (RA.same ud) fun _ h=>h);have hK3:=zh RA;have dz:Boxed W3 B2 94 (.func (.yield l) #[] #[]):=b2
    have h54:W3.cell? ⟨W.heap.size,4,none⟩=some (.slice A ks.length c):=by
      have hB:=aj.new W 25 #[.int .i64 k,.int .i64 fr,.int .i64 to_,.string tx,.slice A ks.length c];have h5:W3.heap[W.heap.size]? = some (.cells #[.int .i64 k,.int .i64 fr,.int .i64 to_,.string tx,.slice A ks.length c] 25 (0,0)):=(GW.2 _ (by simp) (by omega) (.inr ⟨_,hB,rfl⟩)).trans hB;exact aj.cell h5 4
    have aE:=zh cK;have be:=zh jG;clear Zc hy hR GW RA b2 b3 dz Ij c2 Zu cK jG
    gi_wp2
    gi_loopw [17] (fun i wr=>∃ (j:Nat) (xs:List (Int×Value)),j≤ks.length∧i = .int .i64 j∧Hd (xs.map (fun x=>x.1)=d :: iN (wrap64 (d+1)) (ks.take j))∧Hd (J (pre ++ xs) wr)∧Hd (si n₀ mb W wr)) (fun i _=>ks.length - (intOf i).toNat)
    case atStart=>exact ⟨0,_,Nat.zero_le _,rfl,zh (by simp [iN]),HJ3,hK3⟩
    case round=>
      obtain ⟨j,xs,hj,rfl,HX,Z2,HK⟩:=hrel;by_cases fs:j<ks.length
      · have hrj:=(HR.o.keep (HK.o.same ud) fun _ h=>h).cellsD fs
        obtain ⟨g,o,cap,A2,c2,hv,hg,q0,q1,q2,q3,q4,YJ⟩:=hrj;cases hv;have Ng:=HK.o.1;have b2:=HK.o.box aE.o h2;have b3:=HK.o.box be.o h3;have c3:=(b3.alloc (.cells #[.int .i64 ks[j].k,.int .i64 ks[j].fr,.int .i64 ks[j].to,.string ks[j].tx,.slice A2 ks[j].ks.length c2] 25)).cell;have UY:si n₀ mb W (wr.alloc (.cells #[.int .i64 ks[j].k,.int .i64 ks[j].fr,.int .i64 ks[j].to,.string ks[j].tx,.slice A2 ks[j].ks.length c2] 25)):=HK.o.trans (si.below ((Below.refl _ wr).alloc (Nat.le_refl _) _))
        have hc:=IH.o ks[j] (List.getElem_mem fs) (m - 1) (wrap64 (d+1)) (pre ++ xs) _ (wr.alloc (.cells #[.int .i64 ks[j].k,.int .i64 ks[j].fr,.int .i64 ks[j].to,.string ks[j].tx,.slice A2 ks[j].ks.length c2] 25)) (by simp;omega) (by simp;omega)
          (YJ.keep ((si.below ((Below.refl _ wr).alloc (Nat.le_refl _) _)).same (mb:=mb) (by omega)) fun _ h=>h) (b2.alloc _) (b3.alloc _) (HJ.o _ _ _ Z2.o (World.grownBy_alloc wr _ none)) (by
            have h8:=Ue.o;have h9:=congrArg List.length HX.o;have oa:=vU (d:=wrap64 (d+1)) fs;have U_:=xt (d:=wrap64 (d+1)) (l:=ks) (j:=j+1);rw [oa] at U_;simp [qs] at h8 h9 U_ ⊢
            omega)
        (have Nr:(j:Int)<(ks.length:Int):=by omega);(have U0:(0:Int)≤(j:Int):=by omega);have Ug:=zh UY;have HXJ:Hd (iN (wrap64 (d+1)) (ks.take (j+1))=iN (wrap64 (d+1)) (ks.take j) ++ qs (wrap64 (d+1)) ks[j]):=zh (vU fs);clear YJ UY b2 b3
        gi_wp2
        refine ⟨trivial,fun h=>absurd h (by simp [Fence.wide]),hc.mono ?_⟩;clear hc;rintro e W4 (⟨rfl,⟨ys,UL,UK⟩,Nq⟩ | ⟨rfl,q,hq⟩)
        · have HY1:=zh UL
          have HY2:=zh UK;have qE:=zh (Ug.o.trans Nq);clear UL UK Nq
          gi_wp2
          go_roundw
          case rel=>exact ⟨j+1,xs ++ ys,by omega,rfl,zh (by rw [List.map_append,HX.o,HY1.o,HXJ.o];rfl),zh (by rw [← List.append_assoc];exact HY2.o),qE⟩
          case measure=>simp [intOf];omega
        · gi_wp2
          go_ret;exact .inr ⟨rfl,_,hq⟩
      · obtain rfl:j=ks.length:=by omega
        gi_wp2
        go_ret;exact .inl ⟨rfl,⟨xs,by rw [HX.o,List.take_length];rfl,Z2.o⟩,HK.o⟩
  · gi_wp2
    go_ret;exact .inr ⟨rfl,_,Xq⟩
theorem BU {W W':World} (h:Below W.heap.size W W'):W.grownBy W' none:=⟨h.os,h.tape,h.output,h.size,fun k hk _=>h.block k hk⟩
theorem si.set {n₀ mb:Nat} {W:World} (v:Value):si n₀ mb W (W.setCell ⟨mb,0,none⟩ v):=⟨by simp,fun b _ h2 _=>Below.heap_setCell W ⟨mb,0,none⟩ v b h2⟩
set_option maxRecDepth 100000 in
set_option maxHeartbeats 2000000 in
theorem all_stops (m Bn n₀ mb:Nat) (n:No) (cs:List Value) (w:World) (ud:n₀≤w.heap.size) (hmb:mb<w.heap.size) (hBm:Bn≠mb) (hB:aj w Bn 25 cs.toArray) (hN:bG w (fun b=>b<n₀∧b≠mb) n cs) :
    SeqStopsK Fence.wide m prog 84 #[.pointer (some ⟨Bn,0,none⟩)] (fun x:Int×Value=>#[.int .i64 x.1,x.2]) (si n₀ mb) (fun xs=>xs.map (fun x=>x.1)=qs 0 n) (fun _=>True) (qs 0 n).length w:=by
  intro l J Jx W hW hJ hJx hY h0;have UV:∀ (fn:Fn) (first cap:Array Value) (w:World),(Instr.makeFunc fn first cap).run prog w = .ok (.func fn first cap) w:=fun _ _ _ _=>rfl;have je:=hW.size;have FR:aj W Bn 25 cs.toArray:=hB.below hW hB.lt;have QE:bG W (fun b=>b<n₀∧b≠mb) n cs:=hN.keep (aI.of_below hW fun b hb=>Nat.lt_of_lt_of_le hb.1 ud) fun _ h=>h;obtain ⟨A,c,rfl,-⟩:=hN.forms;obtain ⟨W2,Xh⟩:∃ W2,((W.alloc (.cells #[.func (.yield l) #[] #[]] 94)).alloc (.cells #[.nilFunc] 94)).setCell ⟨W.heap.size+1,0,none⟩ (.func (.func 85) #[] #[.pointer (some ⟨W.heap.size,0,none⟩),.pointer (some ⟨W.heap.size+1,0,none⟩)])=W2:=⟨_,rfl⟩
  have cK:Below W.heap.size W W2:=by
    rw [← Xh];exact (((Below.refl _ W).alloc (Nat.le_refl _) _).alloc (by simp) _).setCell (p:=⟨W.heap.size+1,0,none⟩) (Nat.le_succ _) _
  have x3:Boxed W2 (W.heap.size+1) 94 (.func (.func 85) #[] #[.pointer (some ⟨W.heap.size,0,none⟩),.pointer (some ⟨W.heap.size+1,0,none⟩)]):=by
    rw [← Xh];have:=Boxed.new (W.alloc (.cells #[.func (.yield l) #[] #[]] 94)) 94 .nilFunc;rw [World.size_alloc] at this;exact this.set _
  have x2:Boxed W2 W.heap.size 94 (.func (.yield l) #[] #[]):=by
    rw [← Xh];exact ((Boxed.new W _ _).alloc _).other (by omega) _
  have ep:=cK.size;have c3:=x3.cell;obtain ⟨n0,n1,n2,n3,n4,nf,nl⟩:=(FR.below cK FR.lt).cells5
  have hc:=Om l W.heap.size (W.heap.size+1) n₀ mb (qs 0 n).length (by omega) (by omega) (by omega) J Jx (fun m pre x W hj hl=>by
      obtain ⟨fn,tmps,assign,body,hy,hR⟩:=hY pre x W hj hl
      exact ⟨fn,tmps,assign,body,hy,hR.1,fun c cs _=>hR.2 c cs (fun d h=>by simp [Fence.wide] at h)⟩)
    (fun s A B hs hg=>hJ s A B none hs hg (fun r e=>by cases e)) n (m - 1) 0 [] _ W2 (by omega) (by omega) (QE.keep (aI.of_below cK fun b hb=>by have:=hb.1;omega) fun _ h=>h) x2 x3 (hJ [] W W2 none h0 (BU cK) (fun r e=>by cases e)) (by simp)
  have HC:=zh hc;clear hc hY hJ hJx hW hN QE hB FR x2 x3;have y3:=Boxed.new (W.alloc (.cells #[.func (.yield l) #[] #[]] 94)) 94 .nilFunc;rw [World.size_alloc] at y3;have yc:=y3.cell;have yf:=y3.frozen;clear y3;have wH:=zh (callsIn_wide.1 HC.o);clear HC;refine callsIn_wide.2 ?_;go_enter func84,ntmps84;go_wp2_with fail;refine wH.o.mono ?_;rintro e W4 (⟨rfl,⟨ys,UL,UK⟩,Nq⟩ | ⟨rfl,q,hq⟩)
  · go_wp2_with fail
    go_end0
    exact ⟨⟨_,rfl⟩,.inl ⟨ys,UL,by simpa using UK⟩⟩
  · go_wp2_with fail
    go_end0
    exact ⟨⟨_,rfl⟩,.inr ⟨q,trivial,hq⟩⟩
def G9 (l:List Int):Int:=l.foldl (fun m d=>if m<wrap64 (d+1) then wrap64 (d+1) else m) 0
def depW (n:No):Int:=G9 (qs 0 n)
theorem all_in {cs:Array Value} {w:World}:Calls prog 65 #[.agg cs] w fun e w'=>e = .returned (.func (.func 84) #[] #[.pointer (some ⟨w.heap.size,0,none⟩)])∧w'=w.alloc (.cells cs 25):=by
  have UV:∀ (fn:Fn) (first cap:Array Value) (w:World),(Instr.makeFunc fn first cap).run prog w = .ok (.func fn first cap) w:=fun _ _ _ _=>rfl;go_enter func65,ntmps65;go_wp2_with fail;go_ret;exact ⟨rfl,rfl⟩
set_option maxRecDepth 100000 in
set_option maxHeartbeats 4000000 in
theorem Cb {n:No} {cs:List Value} {w:World} (hN:bG w (fun b=>b<w.heap.size) n cs) :
    Calls prog 33 #[.agg cs.toArray] w fun e w'=>e = .returned (.int .i64 (depW n))∧Below w.heap.size w w':=by
  obtain ⟨A,c,rfl,-⟩:=hN.forms;have HN:=zh hN;clear hN;refine callsIn_wide (n:=10).1 ?_;refine callsIn_of_wp_marks func33 rfl trivial ?_ rfl;simp only [ntmps33,List.size_toArray,List.length_cons,List.length_nil,Nat.reduceAdd,Nat.reduceSub,Array.replicate_succ,Array.replicate_zero,List.push_toArray,List.append_toArray,List.nil_append,List.cons_append];refine wpIn_wide.2 ?_;go_wp2_with fail;refine all_in.mono ?_;rintro e w1 ⟨rfl,rfl⟩;obtain ⟨cv,YX⟩:∃ cv:Array Value,#[.int .i64 n.k,.int .i64 n.fr,.int .i64 n.to,.string n.tx,.slice A n.ks.length c]=cv:=⟨_,rfl⟩;have hBn:aj (((w.alloc (.cells cv 25)).alloc (.cells #[.int .i64 0] 3)).alloc (.cells cv 25)) (w.heap.size+2) 25 cv:=aj.new' (by simp);have vE:Below w.heap.size w (((w.alloc (.cells cv 25)).alloc (.cells #[.int .i64 0] 3)).alloc (.cells cv 25)):=(((Below.refl _ w).alloc (Nat.le_refl _) _).alloc (by simp) _).alloc (by simp;omega) _
  have hM:Boxed (((w.alloc (.cells cv 25)).alloc (.cells #[.int .i64 0] 3)).alloc (.cells cv 25)) (w.heap.size+1) 3 (.int .i64 0):=by
    have:=Boxed.new (w.alloc (.cells cv 25)) 3 (.int .i64 0);rw [World.size_alloc] at this;exact this.alloc _
  (have je:(((w.alloc (.cells cv 25)).alloc (.cells #[.int .i64 0] 3)).alloc (.cells cv 25)).heap.size=w.heap.size+3:=by simp);rw [YX]
  generalize hWl:((w.alloc (.cells cv 25)).alloc (.cells #[.int .i64 0] 3)).alloc (.cells cv 25)=Wl at *
  clear hWl;go_wp2_with fail
  refine wpIn_wide.1 (wpIn_rangeFunc_ownF (F:=Fence.wide) (n:=10) rfl (by omega) (gf:=84) (lb:=#[.pointer (some ⟨w.heap.size+1+1,0,none⟩)]) rfl trivial (enters_of func84 (by kernel_rfl) rfl)
    (all_stops 9 (w.heap.size+1+1) w.heap.size (w.heap.size+1) n [.int .i64 n.k,.int .i64 n.fr,.int .i64 n.to,.string n.tx,.slice A n.ks.length c] Wl (by omega) (by omega) (by omega) (by rw [List.toArray_cons] at *;exact YX ▸ hBn)
      (HN.o.keep (aI.of_below vE fun _ h=>h) fun b hb=>⟨hb,by omega⟩)) (fun h k=>h.trans k) (fun W l o o' h1 h2 h3 _=>si.put (by omega) h2 h3) (Below.refl _ _) (fun _=>rfl)
    (fun pre W=>Boxed W (w.heap.size+1) 3 (.int .i64 (G9 (pre.map fun x=>x.1)))∧Below w.heap.size w W) (fun _ _ _=>False)
    (OwnFrom.and (Own.from (boxed_own _ _ _) _) (ownFrom_below (Nat.le_refl _) (by omega)))
    (fun _ _ _ _ _ hs _ _=>hs)
    ⟨hM,vE⟩
    (fun x=>{ tmps:=#[.agg cv,.pointer (some ⟨w.heap.size,0,none⟩),.int .i64 0,.pointer (some ⟨w.heap.size+1,0,none⟩),.int .i64 x.1,.agg cv,.func (.func 84) #[] #[.pointer (some ⟨w.heap.size+1+1,0,none⟩)],.int .i64 x.1,x.2,undef,undef,undef,undef,undef],defers:=[] }) ?assign ?body ?done ?stop)
  case assign=>
    intro l x W K hK
    gi_wp2
    exact hK
  case body=>
    rintro l pre x W ⟨hb,hB⟩ _;have hc:=hb.cell;have hf:=hb.frozen
    have Qt:G9 ((pre ++ [x]).map fun x=>x.1)=if G9 (pre.map fun x=>x.1)<wrap64 (x.1+1) then wrap64 (x.1+1) else G9 (pre.map fun x=>x.1):=by
      unfold G9;rw [List.map_append,List.foldl_append];rfl
    have ZS:=zh Qt;clear Qt
    gi_wp2
    · rename_i h
      exact ⟨(KeepsOthers.setCell _ _ _),si.set _,by rw [ZS.o,if_pos h];exact hb.set _,hB.setCell (p:=⟨w.heap.size+1,0,none⟩) (Nat.le_succ _) _⟩
    · rename_i h
      exact ⟨(KeepsOthers.setCell _ _ _),si.set _,by rw [ZS.o,if_neg (by omega)];exact hb.set _,hB.setCell (p:=⟨w.heap.size+1,0,none⟩) (Nat.le_succ _) _⟩
  case done=>
    rintro D ys W hD hys ⟨hb,hB⟩ hK;have hc:=hb.cell;go_wp2_with fail;refine ⟨by simp,.inl ⟨_,_,rfl,run_takeDeferred hK,?_⟩⟩;exact ⟨_,results_tmp rfl _ _ _,rfl,hB.trans (belowK_b (w:=w) (Nat.le_refl _) W D _ _ (by omega) hK rfl rfl)⟩
  case stop=>
    rintro D c pre W _ _ h _;exact h.elim
end Go.Proofs.YtfmgdmeopakdaaaGreatDoor
