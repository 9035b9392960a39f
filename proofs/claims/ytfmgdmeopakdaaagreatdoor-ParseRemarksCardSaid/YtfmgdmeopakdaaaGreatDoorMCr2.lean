/- Parts of one proof. -/
import Derived.Test.YtfmgdmeopakdaaaGreatDoorMEr2
import Derived.Test.YtfmgdmeopakdaaaGreatDoorMCr1
import Derived.Test.YtfmgdmeopakdaaaGreatDoorMEr1
import Derived.Test.YtfmgdmeopakdaaaGreatDoorMB4
import Derived.StillTailTactics
set_option linter.unusedVariables false
set_option linter.unusedSimpArgs false
namespace Go.Proofs.YtfmgdmeopakdaaaGreatDoor
open Go Go.RowKit Tryz
set_option maxRecDepth 100000
set_option maxHeartbeats 8000000
def Fp (w:World) (g:Nat):Prop:=∃ p:Int,w.cell? ⟨g,4,none⟩=some (.int .i64 3)∧w.cell? ⟨g,5,none⟩=some (.string ⟨#[]⟩)∧w.cell? ⟨g,6,none⟩=some (.int .i64 p)∧g<w.heap.size∧∀ i,w.frozen? ⟨g,i,none⟩=false
section
variable {w w':World} {base g at_:Nat} {s:ByteArray} {l:List Tk}
theorem cR {q:Int} (h:ey base w g s at_ l):Calls prog 72 #[.pointer (some ⟨g,0,none⟩),.int .i64 q] w fun e w'=>e = .returned (.tuple #[])∧Fp w' g∧Below base w w':=by
  obtain ⟨A,c,R,m,d,xs,hm⟩:=h;have HM:=zh hm;have hl:=hm.blk.lt;have hf:=hm.blk.frozen;have q4:=hm.blk.cell 4;have q5:=hm.blk.cell 5;have q6:=hm.blk.cell 6;simp at q4 q5 q6;clear hm;go_enter func72,ntmps72;go_wp2_with fail
  go_end0
  have hb:=((HM.o.blk.set_ 4 (.int .i64 3)).set_ 5 (.string ⟨#[]⟩)).set_ 6 (.int .i64 q);have h4:=hb.cell 4;have h5:=hb.cell 5;have h6:=hb.cell 6;simp at h4 h5 h6;exact ⟨rfl,⟨q,h4,h5,h6,hb.lt,hb.frozen⟩,(((Below.refl _ _).setCell HM.o.lo _).setCell HM.o.lo _).setCell HM.o.lo _⟩
theorem GD {p n q:Nat} (hq:p+n=q) (h:ey base w g s p l) (hl:l.length≤1000000) (iw:base≤w.heap.size) (hs:s.size≤140737488355328) (hn:dq (s.data.toList.drop p)=n) (h0:0<n) (JM:60<n) :
    Calls prog 49 #[.pointer (some ⟨g,0,none⟩)] w fun e w'=>e = .returned (.tuple #[])∧Fp w' g∧Below base w w':=by
  have yb:=kZ (l:=s.data.toList.drop p);(have je:s.data.toList.length=s.size:=by rw [Array.length_toList];rfl);rw [hn,List.length_drop,je] at yb;have H0:=zh h;obtain ⟨q0,q1,qf,ql,qb⟩:=h.cells;have HN:=zh hn;have gM:=zh iw;(have uE:(s.size:Int)≤140737488355328:=by omega);(have UO:q≤s.size:=by omega);(have FM:p<q:=by omega);have HQ:=zh hq;clear h hn hq yb;go_enter func49,ntmps49;go_wp2_with fail
  (try go_step3)
  go_wp2_with fail
  go_loopg [] (q - p) (fun m wr=>∃ P:Nat,m=q - P∧p≤P∧P≤q∧Hd (ey base wr g s P l)∧Hd (Below base w wr))
  case atStart=>exact ⟨p,rfl,Nat.le_refl _,by omega,H0,zh (Below.refl _ _)⟩
  case round=>
    obtain ⟨P,rfl,GT,QD,HS,HB⟩:=hrel;clear q0 q1 qf ql qb;obtain ⟨q0,q1,qf,ql,qb⟩:=HS.o.cells;(have La:(P:Int)≤140737488355328:=by omega);by_cases fs:P<s.size
    · have wM:(ly s[P]=true∨p<P∧dZ s[P]=true→P+1≤q)∧(ly s[P]=false→(p<P→dZ s[P]=false)→q=P):=by
        have hj:=HQ.o;have h1:=qn (l:=s.data.toList.drop p) (n:=P - p) (by rw [HN.o];omega) (by rw [List.length_drop,je];omega)
        have hb:(s.data.toList.drop p)[P - p]'(by rw [List.length_drop,je];omega)=s[P]:=by
          rw [List.getElem_drop,Array.getElem_toList];simp only [Nat.add_sub_cancel' GT];rfl
        rw [hb,HN.o] at h1;exact ⟨fun h=>by have:=h1.1 (h.imp_right fun h=>⟨by omega,h.2⟩);omega,fun h2 h3=>by have:=h1.2 h2 (fun h=>h3 (by omega));omega⟩
      obtain ⟨c,hc⟩:∃ c,s[P]=c:=⟨_,rfl⟩;rw [hc] at wM;have fM:=zh wM;have HC:=zh hc;(have Ie:(P:Int)<(s.size:Int):=by omega);clear wM;by_cases kx:d8 c.toNat=true
      · have Qy:P+1≤q:=fM.o.1 (.inl kx)
        go_wp2_with fail;refine wp_region_held_drew (S:=(fun w'=>w'.cell? ⟨g,0,none⟩=some (.string s)∧w'.cell? ⟨g,1,none⟩=some (.int .i64 P))) (by kernel_rfl) (by exact ⟨q0,q1⟩) (fun ac=>?_);refine bw ?_ ac;clear ac;rintro wb hb ac;refine aK 34 (by kernel_rfl) (fun aF=>?_);have fh:Hd (ey base wb g s P l):=zh (HS.o.below hb);have aE:Hd (Below base w wb):=zh (HB.o.trans (hb.mono (by have h9:=HB.o.size;have h8:=gM.o;omega)));clear hb
        skip
        (iterate 20 (refine zt aF ?_;try simp only [Act.put,cr,cj,ch,UC,UB,VB]));refine fa (by kernel_rfl) (fun K hK=>?_);go_simp
        go_at_call 48
        refine cO.mono ?_;rintro e w1 ⟨rfl,hw⟩;subst w1;rw [kx];refine hK.out _ _ ac (fun ac=>?_);clear hK K;try simp only [Act.put,cr,cj,ch,UC,UB,VB]
        (refine zt aF ?_;try simp only [Act.put,cr,cj,ch,UC,UB,VB])
        (iterate 10 (refine ao (v:=undef) aF (by decide) (fun _ _ _ h=>h) (Or.inr ⟨by rfl,rfl⟩) (by assumption) ?_;try simp only [Act.put,cr,cj,ch,UC,UB,VB]));(iterate 2 (refine zt aF ?_;try simp only [Act.put,cr,cj,ch,UC,UB,VB]));refine bz ?_;clear aF;obtain ⟨z0,z1,zf,zl,zb⟩:=fh.o.cells;clear q0 q1 qf ql qb ac;go_wp2_with fail;have p8:Hd (ey base (wb.setCell ⟨g,1,none⟩ (.int .i64 ((P:Int)+1))) g s (P+1) l):=zh (by simpa using fh.o.to_ (p:=P+1) (by omega));have be:Hd (Below base w (wb.setCell ⟨g,1,none⟩ (.int .i64 ((P:Int)+1)))):=zh (aE.o.setCell zb _)
        go_roundg (q - (P+1))
        case measure=>omega
        case rel=>exact ⟨P+1,rfl,by omega,by omega,p8,be⟩
      · by_cases mA:gd c.toNat=true
        · have U0:p<P:=by
            rcases Nat.lt_or_ge p P with e | e
            · exact e
            · have h9:=fM.o.2 (Bool.eq_false_iff.2 kx) (fun h=>by omega)
              omega
          have Qy:P+1≤q:=fM.o.1 (.inr ⟨U0,mA⟩);replace kx:=Bool.eq_false_iff.2 kx;go_wp2_with fail;refine wp_region_held_drew (S:=(fun w'=>w'.cell? ⟨g,0,none⟩=some (.string s)∧w'.cell? ⟨g,1,none⟩=some (.int .i64 P))) (by kernel_rfl) (by exact ⟨q0,q1⟩) (fun ac=>?_);refine bw ?_ ac;clear ac;rintro wb hb ac;refine aK 34 (by kernel_rfl) (fun aF=>?_);have fh:Hd (ey base wb g s P l):=zh (HS.o.below hb);have aE:Hd (Below base w wb):=zh (HB.o.trans (hb.mono (by have h9:=HB.o.size;have h8:=gM.o;omega)));clear hb
          skip
          (iterate 20 (refine zt aF ?_;try simp only [Act.put,cr,cj,ch,UC,UB,VB]));refine fa (by kernel_rfl) (fun K hK=>?_);go_simp
          go_at_call 48
          refine cO.mono ?_;rintro e w1 ⟨rfl,hw⟩;subst w1;rw [kx];refine hK.out _ _ ac (fun ac=>?_);clear hK K;(try simp only [Act.put,cr,cj,ch,UC,UB,VB]);(iterate 10 (refine zt aF ?_;try simp only [Act.put,cr,cj,ch,UC,UB,VB]));refine fa (by kernel_rfl) (fun K hK=>?_);go_simp
          go_at_call 50
          refine dW.mono ?_;rintro e w1 ⟨rfl,hw⟩;subst w1;rw [mA];refine hK.out _ _ ac (fun ac=>?_);clear hK K;(try simp only [Act.put,cr,cj,ch,UC,UB,VB]);(iterate 2 (refine zt aF ?_;try simp only [Act.put,cr,cj,ch,UC,UB,VB]));refine bz ?_;clear aF;obtain ⟨z0,z1,zf,zl,zb⟩:=fh.o.cells;clear q0 q1 qf ql qb ac;go_wp2_with fail;have p8:Hd (ey base (wb.setCell ⟨g,1,none⟩ (.int .i64 ((P:Int)+1))) g s (P+1) l):=zh (by simpa using fh.o.to_ (p:=P+1) (by omega));have be:Hd (Below base w (wb.setCell ⟨g,1,none⟩ (.int .i64 ((P:Int)+1)))):=zh (aE.o.setCell zb _)
          go_roundg (q - (P+1))
          case measure=>omega
          case rel=>exact ⟨P+1,rfl,by omega,by omega,p8,be⟩
        · obtain rfl:P=q:=(fM.o.2 (Bool.eq_false_iff.2 kx) (fun _=>Bool.eq_false_iff.2 mA)).symm
          replace kx:=Bool.eq_false_iff.2 kx;replace mA:=Bool.eq_false_iff.2 mA;go_wp2_with fail;refine wp_region_held_drew (S:=(fun w'=>w'.cell? ⟨g,0,none⟩=some (.string s)∧w'.cell? ⟨g,1,none⟩=some (.int .i64 P))) (by kernel_rfl) (by exact ⟨q0,q1⟩) (fun ac=>?_);refine bw ?_ ac;clear ac;rintro wb hb ac;refine aK 34 (by kernel_rfl) (fun aF=>?_);have fh:Hd (ey base wb g s P l):=zh (HS.o.below hb);have aE:Hd (Below base w wb):=zh (HB.o.trans (hb.mono (by have h9:=HB.o.size;have h8:=gM.o;omega)));clear hb
          skip
          (iterate 20 (refine zt aF ?_;try simp only [Act.put,cr,cj,ch,UC,UB,VB]));refine fa (by kernel_rfl) (fun K hK=>?_);go_simp
          go_at_call 48
          refine cO.mono ?_;rintro e w1 ⟨rfl,hw⟩;subst w1;rw [kx];refine hK.out _ _ ac (fun ac=>?_);clear hK K;(try simp only [Act.put,cr,cj,ch,UC,UB,VB]);(iterate 10 (refine zt aF ?_;try simp only [Act.put,cr,cj,ch,UC,UB,VB]));refine fa (by kernel_rfl) (fun K hK=>?_);go_simp
          go_at_call 50
          refine dW.mono ?_;rintro e w1 ⟨rfl,hw⟩;subst w1;rw [mA];refine hK.out _ _ ac (fun ac=>?_);clear hK K;(try simp only [Act.put,cr,cj,ch,UC,UB,VB]);(iterate 2 (refine zt aF ?_;try simp only [Act.put,cr,cj,ch,UC,UB,VB]));refine bz ?_;clear aF;have KT:=fh;have H9:=aE;have GK:=H9.o.size;obtain ⟨z0,z1,zf,zl,zb⟩:=KT.o.cells;clear q0 q1 qf ql qb;(have D6:(p:Int)≤(P:Int):=by omega);(have K_:(P:Int)≤(s.size:Int):=by omega);go_wp2_with fail
          go_region
          all_goals
            obtain ⟨X,hX⟩:∃ X,s.extract p P=X:=⟨_,rfl⟩;rw [hX];(have Ei:X.size=n:=by rw [← hX,ByteArray.size_extract];have:=HQ.o;omega);(have R8:decide ((X.size:Int)>60)=true:=by simp;omega);have dI:Hd (ey base wb.drew g s P l):=zh (KT.o.below (Below.refl _ _).drew);clear hX Ei;go_wp2_with fail;refine (cR dI.o).mono ?_;rintro e w2 ⟨rfl,BR,uF⟩;have kk:=zh BR;have aR:Hd (Below base w w2):=zh (H9.o.drew.trans uF);clear BR uF;go_wp2_with fail;(first | go_end0 | skip);first | exact ⟨rfl,kk.o,aR.o⟩ | exact bodyPost_ret (v:=.tuple #[]) (by first | rfl | simp [results,results49,go_sem]) rfl ⟨rfl,kk.o,aR.o⟩
    · obtain rfl:P=q:=by omega
      (have Ie:decide ((P:Int)<(s.size:Int))=false:=by simp;omega);go_wp2_with fail;refine wp_region_held_drew (S:=(fun w'=>w'.cell? ⟨g,0,none⟩=some (.string s)∧w'.cell? ⟨g,1,none⟩=some (.int .i64 P))) (by kernel_rfl) (by exact ⟨q0,q1⟩) (fun ac=>?_);refine bw ?_ ac;clear ac;rintro wb hb ac;refine aK 34 (by kernel_rfl) (fun aF=>?_);have fh:Hd (ey base wb g s P l):=zh (HS.o.below hb);have aE:Hd (Below base w wb):=zh (HB.o.trans (hb.mono (by have h9:=HB.o.size;have h8:=gM.o;omega)));clear hb
      skip
      (iterate 11 (refine zt aF ?_;try simp only [Act.put,cr,cj,ch,UC,UB,VB]));iterate 22 (refine ao (v:=undef) aF (by decide) (fun _ _ _ h=>h) (Or.inr ⟨by rfl,rfl⟩) (by assumption) ?_;try simp only [Act.put,cr,cj,ch,UC,UB,VB])
      (refine zt aF ?_;try simp only [Act.put,cr,cj,ch,UC,UB,VB])
      refine bz ?_;clear aF;have KT:=fh;have H9:=aE;have GK:=H9.o.size;obtain ⟨z0,z1,zf,zl,zb⟩:=KT.o.cells;clear q0 q1 qf ql qb;(have D6:(p:Int)≤(P:Int):=by omega);(have K_:(P:Int)≤(s.size:Int):=by omega);go_wp2_with fail
      go_region
      all_goals
        obtain ⟨X,hX⟩:∃ X,s.extract p P=X:=⟨_,rfl⟩;rw [hX];(have Ei:X.size=n:=by rw [← hX,ByteArray.size_extract];have:=HQ.o;omega);(have R8:decide ((X.size:Int)>60)=true:=by simp;omega);have dI:Hd (ey base wb.drew g s P l):=zh (KT.o.below (Below.refl _ _).drew);clear hX Ei;go_wp2_with fail;refine (cR dI.o).mono ?_;rintro e w2 ⟨rfl,BR,uF⟩;have kk:=zh BR;have aR:Hd (Below base w w2):=zh (H9.o.drew.trans uF);clear BR uF;go_wp2_with fail;(first | go_end0 | skip);first | exact ⟨rfl,kk.o,aR.o⟩ | exact bodyPost_ret (v:=.tuple #[]) (by first | rfl | simp [results,results49,go_sem]) rfl ⟨rfl,kk.o,aR.o⟩
theorem Bu {p n q:Nat} (hq:p+n=q) (LR:((s.data.toList.drop p).takeWhile dZ).length=n) (h:ey base w g s p l) (hl:l.length≤1000000) (iw:base≤w.heap.size) (hs:s.size≤140737488355328) (hn:gl (s.data.toList.drop p)=none) (h0:0<n) :
    Calls prog 51 #[.pointer (some ⟨g,0,none⟩)] w fun e w'=>e = .returned (.tuple #[])∧Fp w' g∧Below base w w':=by
  (have je:s.data.toList.length=s.size:=by rw [Array.length_toList];rfl);have hg:∀ k (hk:p+k<s.size),(s.data.toList.drop p)[k]'(dg hk)=s[p+k]:=fun k hk=>JZ hk;unfold gl at hn;split at hn
  rotate_left
  · cases hn
  rename_i x_
  rw [LR] at x_;have yb:=AY (p:=dZ) (l:=s.data.toList.drop p);rw [LR,List.length_drop,je] at yb
  have Wr:(∃ hk:p<s.size,s[p]=48∧1<n)∨200<n∨(∃ hk:p+n<s.size,ly s[p+n]=true):=by
    rcases x_ with ⟨h1,h2⟩ | h1 | ⟨c,h1,h2⟩
    · have hk:p<s.size:=by omega
      refine .inl ⟨hk,?_,h2⟩;rw [List.headD_eq_head?_getD,List.head?_eq_getElem?,List.getElem?_eq_getElem (by rw [List.length_drop,je];omega)] at h1;exact (hg 0 hk).symm.trans h1
    · exact .inr (.inl h1)
    · rw [List.head?_drop] at h1
      have hk:n<(s.data.toList.drop p).length:=(List.getElem?_eq_some_iff.1 h1).1;rw [List.length_drop,je] at hk;(have fT:p+n<s.size:=by omega);refine .inr (.inr ⟨fT,?_⟩);rw [List.getElem?_eq_getElem (by rw [List.length_drop,je];omega),hg n fT] at h1;have h1:s[p+n]=c:=Option.some.inj h1;rw [h1];exact h2
  rw [hq] at Wr;have H0:=zh h;obtain ⟨q0,q1,qf,ql,qb⟩:=h.cells;have HN:=zh LR;have HG:=zh hg;have ZM:=zh Wr;have gM:=zh iw;(have uE:(s.size:Int)≤140737488355328:=by omega);(have UO:q≤s.size:=by omega);(have FM:p<q:=by omega);have HQ:=zh hq;clear h hn hq yb x_ LR hg Wr;go_enter func51,ntmps51;go_wp2_with fail
  (try go_step3)
  go_wp2_with fail
  go_loopg [] (q - p) (fun m wr=>∃ P:Nat,m=q - P∧p≤P∧P≤q∧Hd (ey base wr g s P l)∧Hd (Below base w wr))
  case atStart=>exact ⟨p,rfl,Nat.le_refl _,by omega,H0,zh (Below.refl _ _)⟩
  case round=>
    obtain ⟨P,rfl,GT,QD,HS,HB⟩:=hrel;clear q0 q1 qf ql qb;obtain ⟨q0,q1,qf,ql,qb⟩:=HS.o.cells;(have La:(P:Int)≤140737488355328:=by omega);by_cases fs:P<s.size
    · have wM:(dZ s[P]=true→P+1≤q)∧(dZ s[P]=false→q=P):=by
        have hj:=HQ.o;have h1:=oZ (p:=dZ) (l:=s.data.toList.drop p) (m:=P - p) (by rw [HN.o];omega) (by rw [List.length_drop,je];omega);have hb:=HG.o (P - p) (by omega);simp only [Nat.add_sub_cancel' GT] at hb;rw [hb,HN.o] at h1;exact ⟨fun h=>by have:=h1.1 h;omega,fun h2=>by have:=h1.2 h2;omega⟩
      obtain ⟨c,hc⟩:∃ c,s[P]=c:=⟨_,rfl⟩;rw [hc] at wM;have fM:=zh wM;have HC:=zh hc;(have Ie:(P:Int)<(s.size:Int):=by omega);clear wM;by_cases mA:gd c.toNat=true
      · have Qy:P+1≤q:=fM.o.1 mA
        go_wp2_with fail;refine wp_region_held_drew (S:=(fun w'=>w'.cell? ⟨g,0,none⟩=some (.string s)∧w'.cell? ⟨g,1,none⟩=some (.int .i64 P))) (by kernel_rfl) (by exact ⟨q0,q1⟩) (fun ac=>?_);refine bw ?_ ac;clear ac;rintro wb hb ac;refine aK 22 (by kernel_rfl) (fun aF=>?_);have fh:Hd (ey base wb g s P l):=zh (HS.o.below hb);have aE:Hd (Below base w wb):=zh (HB.o.trans (hb.mono (by have h9:=HB.o.size;have h8:=gM.o;omega)));clear hb
        skip
        (iterate 20 (refine zt aF ?_;try simp only [Act.put,cr,cj,ch,UC,UB,VB]));refine fa (by kernel_rfl) (fun K hK=>?_);go_simp
        go_at_call 50
        refine dW.mono ?_;rintro e w1 ⟨rfl,hw⟩;subst w1;rw [mA];refine hK.out _ _ ac (fun ac=>?_);clear hK K;try simp only [Act.put,cr,cj,ch,UC,UB,VB]
        (refine zt aF ?_;try simp only [Act.put,cr,cj,ch,UC,UB,VB])
        refine bz ?_;clear aF;obtain ⟨z0,z1,zf,zl,zb⟩:=fh.o.cells;clear q0 q1 qf ql qb ac;go_wp2_with fail;have p8:Hd (ey base (wb.setCell ⟨g,1,none⟩ (.int .i64 ((P:Int)+1))) g s (P+1) l):=zh (by simpa using fh.o.to_ (p:=P+1) (by omega));have be:Hd (Below base w (wb.setCell ⟨g,1,none⟩ (.int .i64 ((P:Int)+1)))):=zh (aE.o.setCell zb _)
        go_roundg (q - (P+1))
        case measure=>omega
        case rel=>exact ⟨P+1,rfl,by omega,by omega,p8,be⟩
      · obtain rfl:P=q:=(fM.o.2 (Bool.eq_false_iff.2 mA)).symm
        replace mA:=Bool.eq_false_iff.2 mA;go_wp2_with fail;refine wp_region_held_drew (S:=(fun w'=>w'.cell? ⟨g,0,none⟩=some (.string s)∧w'.cell? ⟨g,1,none⟩=some (.int .i64 P))) (by kernel_rfl) (by exact ⟨q0,q1⟩) (fun ac=>?_);refine bw ?_ ac;clear ac;rintro wb hb ac;refine aK 22 (by kernel_rfl) (fun aF=>?_);have fh:Hd (ey base wb g s P l):=zh (HS.o.below hb);have aE:Hd (Below base w wb):=zh (HB.o.trans (hb.mono (by have h9:=HB.o.size;have h8:=gM.o;omega)));clear hb
        skip
        (iterate 20 (refine zt aF ?_;try simp only [Act.put,cr,cj,ch,UC,UB,VB]));refine fa (by kernel_rfl) (fun K hK=>?_);go_simp
        go_at_call 50
        refine dW.mono ?_;rintro e w1 ⟨rfl,hw⟩;subst w1;rw [mA];refine hK.out _ _ ac (fun ac=>?_);clear hK K;try simp only [Act.put,cr,cj,ch,UC,UB,VB]
        (refine zt aF ?_;try simp only [Act.put,cr,cj,ch,UC,UB,VB])
        refine bz ?_;clear aF;have GK:=aE.o.size;obtain ⟨z0,z1,zf,zl,zb⟩:=fh.o.cells;clear q0 q1 qf ql qb;(have D6:(p:Int)≤(P:Int):=by omega);(have K_:(P:Int)≤(s.size:Int):=by omega);go_wp2_with fail
        go_region
        all_goals
          obtain ⟨X,hX⟩:∃ X,s.extract p P=X:=⟨_,rfl⟩;rw [hX];(have Ei:X.size=n:=by rw [← hX,ByteArray.size_extract];have:=HQ.o;omega);(have Xg:0<X.size:=by omega);(have O9:(0:Int)<(X.size:Int):=by omega);have dI:Hd (ey base wb.drew g s P l):=zh (fh.o.below (Below.refl _ _).drew)
          have G2:(X[0]=48∧1<X.size)∨200<X.size∨d8 c.toNat=true:=by
            rcases ZM.o with ⟨hk,h1,h2⟩ | h1 | ⟨hk,h1⟩
            · exact .inl ⟨by rw [← h1];simp only [← hX];rw [ByteArray.getElem_extract];rfl,by omega⟩
            · exact .inr (.inl (by omega))
            · exact .inr (.inr (by rw [hc] at h1;exact h1))
          obtain ⟨x0,GN⟩:∃ x,X[0]=x:=⟨_,rfl⟩;rw [GN] at G2;clear hX Ei;have z0:wb.drew.cell? ⟨g,0,none⟩=some (.string s):=z0;have z1:wb.drew.cell? ⟨g,1,none⟩=some (.int .i64 P):=z1;by_cases oD:x0=48
          · by_cases xY:1<X.size
            · have U7:decide ((X.size:Int)>1)=true:=by simp;omega
              subst oD;clear G2;go_wp2_with fail;refine wp_region_held_drew (S:=(fun w'=>w'.cell? ⟨g,0,none⟩=some (.string s)∧w'.cell? ⟨g,1,none⟩=some (.int .i64 P))) (by kernel_rfl) (by exact ⟨z0,z1⟩) (fun ac=>?_);refine bw ?_ ac;clear ac;rintro wc hb ac;refine aK 37 (by kernel_rfl) (fun aF=>?_);have kk:Hd (ey base wc g s P l):=zh (dI.o.below hb);have aR:Hd (Below base w wc):=zh (aE.o.drew.trans (hb.mono (by have h9:=aE.o.size;have h8:=gM.o;show base≤wb.heap.size;omega)));clear hb z0 z1
              skip
              (iterate 9 (refine zt aF ?_;try simp only [Act.put,cr,cj,ch,UC,UB,VB]));(iterate 3 (refine ao (v:=undef) aF (by decide) (fun _ _ _ h=>h) (Or.inr ⟨by rfl,rfl⟩) (by assumption) ?_;try simp only [Act.put,cr,cj,ch,UC,UB,VB]));(iterate 2 (refine zt aF ?_;try simp only [Act.put,cr,cj,ch,UC,UB,VB]));iterate 22 (refine ao (v:=undef) aF (by decide) (fun _ _ _ h=>h) (Or.inr ⟨by rfl,rfl⟩) (by assumption) ?_;try simp only [Act.put,cr,cj,ch,UC,UB,VB])
              (refine zt aF ?_;try simp only [Act.put,cr,cj,ch,UC,UB,VB])
              refine bz ?_;clear aF;clear ac;go_wp2_with fail;refine (cR kk.o).mono ?_;rintro e w2 ⟨rfl,lJ,ft⟩;have rY:=zh lJ;have bf:Hd (Below base w w2):=zh (aR.o.trans ft);clear lJ ft;go_wp2_with fail;exact bodyPost_ret (v:=.tuple #[]) (by first | rfl | simp [results,results51,go_sem]) rfl ⟨rfl,rY.o,bf.o⟩
            · have my:d8 c.toNat=true:=by rcases G2 with h | h | h;exact absurd h.2 xY;exact absurd h (by omega);exact h
              (have U7:decide ((X.size:Int)>1)=false:=by simp;omega);(have Xf:decide ((X.size:Int)>200)=false:=by simp;omega);subst oD;clear G2;go_wp2_with fail;refine wp_region_held_drew (S:=(fun w'=>w'.cell? ⟨g,0,none⟩=some (.string s)∧w'.cell? ⟨g,1,none⟩=some (.int .i64 P))) (by kernel_rfl) (by exact ⟨z0,z1⟩) (fun ac=>?_);refine bw ?_ ac;clear ac;rintro wc hb ac;refine aK 37 (by kernel_rfl) (fun aF=>?_);have kk:Hd (ey base wc g s P l):=zh (dI.o.below hb);have aR:Hd (Below base w wc):=zh (aE.o.drew.trans (hb.mono (by have h9:=aE.o.size;have h8:=gM.o;show base≤wb.heap.size;omega)));clear hb z0 z1
              skip
              (iterate 4 (refine zt aF ?_;try simp only [Act.put,cr,cj,ch,UC,UB,VB]));(iterate 3 (refine zt aF ?_;try simp only [Act.put,cr,cj,ch,UC,UB,VB]));(iterate 27 (refine zt aF ?_;try simp only [Act.put,cr,cj,ch,UC,UB,VB]));refine fa (by kernel_rfl) (fun K hK=>?_);go_simp
              go_at_call 48
              refine cO.mono ?_;rintro e w1 ⟨rfl,hw⟩;subst w1;rw [my];refine hK.out _ _ ac (fun ac=>?_);clear hK K;(try simp only [Act.put,cr,cj,ch,UC,UB,VB]);(iterate 2 (refine zt aF ?_;try simp only [Act.put,cr,cj,ch,UC,UB,VB]));refine bz ?_;clear aF;clear ac;go_wp2_with fail;refine (cR kk.o).mono ?_;rintro e w2 ⟨rfl,lJ,ft⟩;have rY:=zh lJ;have bf:Hd (Below base w w2):=zh (aR.o.trans ft);clear lJ ft;go_wp2_with fail;exact bodyPost_ret (v:=.tuple #[]) (by first | rfl | simp [results,results51,go_sem]) rfl ⟨rfl,rY.o,bf.o⟩
          · by_cases Qq:200<X.size
            · have Xf:decide ((X.size:Int)>200)=true:=by simp;omega
              have UM:((x0.toNat:Int) == 48)=false:=by
                rw [beq_eq_false_iff_ne];intro e;apply oD;exact UInt8.toNat_inj.1 (by show x0.toNat=48;omega)
              clear G2;go_wp2_with fail;refine wp_region_held_drew (S:=(fun w'=>w'.cell? ⟨g,0,none⟩=some (.string s)∧w'.cell? ⟨g,1,none⟩=some (.int .i64 P))) (by kernel_rfl) (by exact ⟨z0,z1⟩) (fun ac=>?_);refine bw ?_ ac;clear ac;rintro wc hb ac;refine aK 37 (by kernel_rfl) (fun aF=>?_);have kk:Hd (ey base wc g s P l):=zh (dI.o.below hb);have aR:Hd (Below base w wc):=zh (aE.o.drew.trans (hb.mono (by have h9:=aE.o.size;have h8:=gM.o;show base≤wb.heap.size;omega)));clear hb z0 z1
              skip
              (iterate 4 (refine zt aF ?_;try simp only [Act.put,cr,cj,ch,UC,UB,VB]));(iterate 3 (refine ao (v:=undef) aF (by decide) (fun _ _ _ h=>h) (Or.inr ⟨by rfl,rfl⟩) (by assumption) ?_;try simp only [Act.put,cr,cj,ch,UC,UB,VB]));(iterate 7 (refine zt aF ?_;try simp only [Act.put,cr,cj,ch,UC,UB,VB]));iterate 22 (refine ao (v:=undef) aF (by decide) (fun _ _ _ h=>h) (Or.inr ⟨by rfl,rfl⟩) (by assumption) ?_;try simp only [Act.put,cr,cj,ch,UC,UB,VB])
              (refine zt aF ?_;try simp only [Act.put,cr,cj,ch,UC,UB,VB])
              refine bz ?_;clear aF;clear ac;go_wp2_with fail;refine (cR kk.o).mono ?_;rintro e w2 ⟨rfl,lJ,ft⟩;have rY:=zh lJ;have bf:Hd (Below base w w2):=zh (aR.o.trans ft);clear lJ ft;go_wp2_with fail;exact bodyPost_ret (v:=.tuple #[]) (by first | rfl | simp [results,results51,go_sem]) rfl ⟨rfl,rY.o,bf.o⟩
            · have my:d8 c.toNat=true:=by rcases G2 with h | h | h;exact absurd h.1 oD;exact absurd h Qq;exact h
              have Xf:decide ((X.size:Int)>200)=false:=by simp;omega
              have UM:((x0.toNat:Int) == 48)=false:=by
                rw [beq_eq_false_iff_ne];intro e;apply oD;exact UInt8.toNat_inj.1 (by show x0.toNat=48;omega)
              clear G2;go_wp2_with fail;refine wp_region_held_drew (S:=(fun w'=>w'.cell? ⟨g,0,none⟩=some (.string s)∧w'.cell? ⟨g,1,none⟩=some (.int .i64 P))) (by kernel_rfl) (by exact ⟨z0,z1⟩) (fun ac=>?_);refine bw ?_ ac;clear ac;rintro wc hb ac;refine aK 37 (by kernel_rfl) (fun aF=>?_);have kk:Hd (ey base wc g s P l):=zh (dI.o.below hb);have aR:Hd (Below base w wc):=zh (aE.o.drew.trans (hb.mono (by have h9:=aE.o.size;have h8:=gM.o;show base≤wb.heap.size;omega)));clear hb z0 z1
              skip
              (iterate 4 (refine zt aF ?_;try simp only [Act.put,cr,cj,ch,UC,UB,VB]));(iterate 3 (refine ao (v:=undef) aF (by decide) (fun _ _ _ h=>h) (Or.inr ⟨by rfl,rfl⟩) (by assumption) ?_;try simp only [Act.put,cr,cj,ch,UC,UB,VB]));(iterate 27 (refine zt aF ?_;try simp only [Act.put,cr,cj,ch,UC,UB,VB]));refine fa (by kernel_rfl) (fun K hK=>?_);go_simp
              go_at_call 48
              refine cO.mono ?_;rintro e w1 ⟨rfl,hw⟩;subst w1;rw [my];refine hK.out _ _ ac (fun ac=>?_);clear hK K;(try simp only [Act.put,cr,cj,ch,UC,UB,VB]);(iterate 2 (refine zt aF ?_;try simp only [Act.put,cr,cj,ch,UC,UB,VB]));refine bz ?_;clear aF;clear ac;go_wp2_with fail;refine (cR kk.o).mono ?_;rintro e w2 ⟨rfl,lJ,ft⟩;have rY:=zh lJ;have bf:Hd (Below base w w2):=zh (aR.o.trans ft);clear lJ ft;go_wp2_with fail;exact bodyPost_ret (v:=.tuple #[]) (by first | rfl | simp [results,results51,go_sem]) rfl ⟨rfl,rY.o,bf.o⟩
    · obtain rfl:P=q:=by omega
      (have Ie:decide ((P:Int)<(s.size:Int))=false:=by simp;omega);go_wp2_with fail;refine wp_region_held_drew (S:=(fun w'=>w'.cell? ⟨g,0,none⟩=some (.string s)∧w'.cell? ⟨g,1,none⟩=some (.int .i64 P))) (by kernel_rfl) (by exact ⟨q0,q1⟩) (fun ac=>?_);refine bw ?_ ac;clear ac;rintro wb hb ac;refine aK 22 (by kernel_rfl) (fun aF=>?_);have fh:Hd (ey base wb g s P l):=zh (HS.o.below hb);have aE:Hd (Below base w wb):=zh (HB.o.trans (hb.mono (by have h9:=HB.o.size;have h8:=gM.o;omega)));clear hb
      skip
      (iterate 11 (refine zt aF ?_;try simp only [Act.put,cr,cj,ch,UC,UB,VB]));iterate 10 (refine ao (v:=undef) aF (by decide) (fun _ _ _ h=>h) (Or.inr ⟨by rfl,rfl⟩) (by assumption) ?_;try simp only [Act.put,cr,cj,ch,UC,UB,VB])
      (refine zt aF ?_;try simp only [Act.put,cr,cj,ch,UC,UB,VB])
      refine bz ?_;clear aF;have GK:=aE.o.size;obtain ⟨z0,z1,zf,zl,zb⟩:=fh.o.cells;clear q0 q1 qf ql qb;(have D6:(p:Int)≤(P:Int):=by omega);(have K_:(P:Int)≤(s.size:Int):=by omega);go_wp2_with fail
      go_region
      all_goals
        obtain ⟨X,hX⟩:∃ X,s.extract p P=X:=⟨_,rfl⟩;rw [hX];(have Ei:X.size=n:=by rw [← hX,ByteArray.size_extract];have:=HQ.o;omega);(have Xg:0<X.size:=by omega);(have O9:(0:Int)<(X.size:Int):=by omega);have dI:Hd (ey base wb.drew g s P l):=zh (fh.o.below (Below.refl _ _).drew)
        have G2:(X[0]=48∧1<X.size)∨200<X.size∨False:=by
          rcases ZM.o with ⟨hk,h1,h2⟩ | h1 | ⟨hk,h1⟩
          · exact .inl ⟨by rw [← h1];simp only [← hX];rw [ByteArray.getElem_extract];rfl,by omega⟩
          · exact .inr (.inl (by omega))
          · exact absurd hk (by omega)
        obtain ⟨x0,GN⟩:∃ x,X[0]=x:=⟨_,rfl⟩;rw [GN] at G2;clear hX Ei;have z0:wb.drew.cell? ⟨g,0,none⟩=some (.string s):=z0;have z1:wb.drew.cell? ⟨g,1,none⟩=some (.int .i64 P):=z1;by_cases oD:x0=48
        · by_cases xY:1<X.size
          · have U7:decide ((X.size:Int)>1)=true:=by simp;omega
            subst oD;clear G2;go_wp2_with fail;refine wp_region_held_drew (S:=(fun w'=>w'.cell? ⟨g,0,none⟩=some (.string s)∧w'.cell? ⟨g,1,none⟩=some (.int .i64 P))) (by kernel_rfl) (by exact ⟨z0,z1⟩) (fun ac=>?_);refine bw ?_ ac;clear ac;rintro wc hb ac;refine aK 37 (by kernel_rfl) (fun aF=>?_);have kk:Hd (ey base wc g s P l):=zh (dI.o.below hb);have aR:Hd (Below base w wc):=zh (aE.o.drew.trans (hb.mono (by have h9:=aE.o.size;have h8:=gM.o;show base≤wb.heap.size;omega)));clear hb z0 z1
            skip
            (iterate 9 (refine zt aF ?_;try simp only [Act.put,cr,cj,ch,UC,UB,VB]));(iterate 3 (refine ao (v:=undef) aF (by decide) (fun _ _ _ h=>h) (Or.inr ⟨by rfl,rfl⟩) (by assumption) ?_;try simp only [Act.put,cr,cj,ch,UC,UB,VB]));(iterate 2 (refine zt aF ?_;try simp only [Act.put,cr,cj,ch,UC,UB,VB]));iterate 22 (refine ao (v:=undef) aF (by decide) (fun _ _ _ h=>h) (Or.inr ⟨by rfl,rfl⟩) (by assumption) ?_;try simp only [Act.put,cr,cj,ch,UC,UB,VB])
            (refine zt aF ?_;try simp only [Act.put,cr,cj,ch,UC,UB,VB])
            refine bz ?_;clear aF;clear ac;go_wp2_with fail;refine (cR kk.o).mono ?_;rintro e w2 ⟨rfl,lJ,ft⟩;have rY:=zh lJ;have bf:Hd (Below base w w2):=zh (aR.o.trans ft);clear lJ ft;go_wp2_with fail;exact bodyPost_ret (v:=.tuple #[]) (by first | rfl | simp [results,results51,go_sem]) rfl ⟨rfl,rY.o,bf.o⟩
          · exfalso
            rcases G2 with h | h | h
            · exact xY h.2
            · omega
            · exact h
        · by_cases Qq:200<X.size
          · have Xf:decide ((X.size:Int)>200)=true:=by simp;omega
            have UM:((x0.toNat:Int) == 48)=false:=by
              rw [beq_eq_false_iff_ne];intro e;apply oD;exact UInt8.toNat_inj.1 (by show x0.toNat=48;omega)
            clear G2;go_wp2_with fail;refine wp_region_held_drew (S:=(fun w'=>w'.cell? ⟨g,0,none⟩=some (.string s)∧w'.cell? ⟨g,1,none⟩=some (.int .i64 P))) (by kernel_rfl) (by exact ⟨z0,z1⟩) (fun ac=>?_);refine bw ?_ ac;clear ac;rintro wc hb ac;refine aK 37 (by kernel_rfl) (fun aF=>?_);have kk:Hd (ey base wc g s P l):=zh (dI.o.below hb);have aR:Hd (Below base w wc):=zh (aE.o.drew.trans (hb.mono (by have h9:=aE.o.size;have h8:=gM.o;show base≤wb.heap.size;omega)));clear hb z0 z1
            skip
            (iterate 4 (refine zt aF ?_;try simp only [Act.put,cr,cj,ch,UC,UB,VB]));(iterate 3 (refine ao (v:=undef) aF (by decide) (fun _ _ _ h=>h) (Or.inr ⟨by rfl,rfl⟩) (by assumption) ?_;try simp only [Act.put,cr,cj,ch,UC,UB,VB]));(iterate 7 (refine zt aF ?_;try simp only [Act.put,cr,cj,ch,UC,UB,VB]));iterate 22 (refine ao (v:=undef) aF (by decide) (fun _ _ _ h=>h) (Or.inr ⟨by rfl,rfl⟩) (by assumption) ?_;try simp only [Act.put,cr,cj,ch,UC,UB,VB])
            (refine zt aF ?_;try simp only [Act.put,cr,cj,ch,UC,UB,VB])
            refine bz ?_;clear aF;clear ac;go_wp2_with fail;refine (cR kk.o).mono ?_;rintro e w2 ⟨rfl,lJ,ft⟩;have rY:=zh lJ;have bf:Hd (Below base w w2):=zh (aR.o.trans ft);clear lJ ft;go_wp2_with fail;exact bodyPost_ret (v:=.tuple #[]) (by first | rfl | simp [results,results51,go_sem]) rfl ⟨rfl,rY.o,bf.o⟩
          · exfalso
            rcases G2 with h | h | h
            · exact oD h.1
            · exact Qq h
            · exact h
theorem Gk {er:Int} (h:ey base w g s at_ l) (hl:l.length≤100000) (hs:s.size≤65536) (cX:at_<s.size) (iw:base≤w.heap.size) (hr:bP at_ (s.data.toList.drop (at_+1)) (at_+1) [] = .error er) :
    Calls prog 52 #[.pointer (some ⟨g,0,none⟩)] w fun e w'=>e = .returned (.tuple #[])∧Fp w' g∧Below base w w':=by
  obtain ⟨A,c,R,m,d,xs,hm⟩:=h;have H:=zh hm;have HR:=zh hr;have dA:=hm.lo;have q0:=hm.blk.cell 0;have q1:=hm.blk.cell 1;simp at q0 q1;have qf:=hm.blk.frozen;have ql:=hm.blk.lt;(have U5:(at_:Int)<(s.size:Int):=by omega);(have uE:(s.size:Int)≤65536:=by omega);have MU:Hd (aj (w.setCell ⟨g,1,none⟩ (.int .i64 ((at_:Int)+1))) g 59 #[.string s,.int .i64 ((at_+1:Nat):Int),.slice A l.length c,.slice R m d,.int .i64 0,.string ⟨#[]⟩,.int .i64 0]):=zh (by simpa using hm.blk.set_ 1 (.int .i64 ((at_:Int)+1)));have cT:Hd (ay (fun k=>k=g) w (w.setCell ⟨g,1,none⟩ (.int .i64 ((at_:Int)+1)))):=zh ((ay.refl (fun k=>k=g) _).set_ (p:=⟨g,1,none⟩) (.inr rfl) _);clear hm hr;obtain ⟨i0,fL,ga,f_,fZ⟩:=info_parts zA;go_enter func52,ntmps52;go_wp2_with fail
  (try go_step3)
  go_wp2_with fail
  go_loopg [3] (s.size - at_) (fun mm u3 wr=>∃ (p:Nat) (acc:List UInt8),mm=s.size+1 - p∧at_<p∧p≤s.size∧acc.length≤p∧Hd (wr.ownsRow w.heap.size 5 1 u3 acc.length (vb acc))∧Hd (ay (fun k=>k=g) w wr)∧Hd (aj wr g 59 #[.string s,.int .i64 p,.slice A l.length c,.slice R m d,.int .i64 0,.string ⟨#[]⟩,.int .i64 0])∧Hd (bP at_ (s.data.toList.drop p) p acc = .error er))
  case atStart=>exact ⟨at_+1,[],by omega,by omega,by omega,by simp,zh ⟨by simp [vb],.inl ⟨rfl,by simp [vb]⟩⟩,cT,MU,HR⟩
  case round=>
    obtain ⟨p,acc,rfl,r_,jM,QC,HO,HB,HK,HT⟩:=hrel;(try rename World=>wr);clear q0 q1 qf;have q0:=HK.o.cell 0;have q1:=HK.o.cell 1;simp at q0 q1;have qf:=HK.o.frozen;have y_:=HK.o.lt;(have eN:s.data.toList.length=s.size:=by rw [Array.length_toList];rfl);by_cases fs:p<s.size
    case neg=>
      have Ns:decide (s.size≤p)=true:=decide_eq_true (by omega);go_wp2_with fail;refine wp_region_held_drew (S:=(fun w'=>w'.cell? ⟨g,0,none⟩=some (.string s)∧w'.cell? ⟨g,1,none⟩=some (.int .i64 p))) (by kernel_rfl) (by exact ⟨q0,q1⟩) (fun ac=>?_);refine bw ?_ ac;clear ac;rintro wa hb ac;refine aK 22 (by kernel_rfl) (fun aF=>?_);have jS:Hd (aj wa g 59 #[.string s,.int .i64 p,.slice A l.length c,.slice R m d,.int .i64 0,.string ⟨#[]⟩,.int .i64 0]):=zh (HK.o.below hb y_);have wJ:Hd (ay (fun k=>k=g) w wa):=zh (HB.o.then_ hb);have Iq:Hd (wa.ownsRow w.heap.size 5 1 u3 acc.length (vb acc)):=zh (own_below HO.o hb);have ox:g<wa.heap.size:=Nat.lt_of_lt_of_le y_ hb.size;clear hb;clear q0 q1;(iterate 11 (refine zt aF ?_;try simp only [Act.put,cr,cj,ch,UC,UB,VB]));iterate 10 (refine ao (v:=undef) aF (by decide) (fun _ _ _ h=>h) (Or.inr ⟨by rfl,rfl⟩) (by assumption) ?_;try simp only [Act.put,cr,cj,ch,UC,UB,VB])
      (refine zt aF ?_;try simp only [Act.put,cr,cj,ch,UC,UB,VB])
      refine bz ?_;clear aF;go_wp2_with fail;refine (cR (base:=base) (at_:=p) ⟨_,_,_,_,_,_,H.o.but wJ.o jS.o (by omega)⟩).mono ?_;rintro e w4 ⟨rfl,hS,dB⟩;have iW:=zh hS;have Fo:=zh ((cH wJ.o dA iw).trans dB);clear hS dB;go_wp2_with fail;exact bodyPost_ret (v:=.tuple #[]) (by first | rfl | simp [results,results52,go_sem]) rfl ⟨rfl,iW.o,Fo.o⟩
    obtain ⟨x,hx⟩:∃ x,s[p]=x:=⟨_,rfl⟩;(have D5:(p:Int)<(s.size:Int):=by omega);have Ns:decide (s.size≤p)=false:=decide_eq_false (by omega)
    have d9:s.data.toList.drop p=x :: s.data.toList.drop (p+1):=by
      rw [List.drop_eq_getElem_cons (by omega),Array.getElem_toList];exact congrArg (· :: _) hx
    rw [d9] at HT;by_cases oa:x=10
    case pos=>
      subst oa;go_wp2_with fail;refine wp_region_held_drew (S:=(fun w'=>w'.cell? ⟨g,0,none⟩=some (.string s)∧w'.cell? ⟨g,1,none⟩=some (.int .i64 p))) (by kernel_rfl) (by exact ⟨q0,q1⟩) (fun ac=>?_);refine bw ?_ ac;clear ac;rintro wa hb ac;refine aK 22 (by kernel_rfl) (fun aF=>?_);have jS:Hd (aj wa g 59 #[.string s,.int .i64 p,.slice A l.length c,.slice R m d,.int .i64 0,.string ⟨#[]⟩,.int .i64 0]):=zh (HK.o.below hb y_);have wJ:Hd (ay (fun k=>k=g) w wa):=zh (HB.o.then_ hb);have Iq:Hd (wa.ownsRow w.heap.size 5 1 u3 acc.length (vb acc)):=zh (own_below HO.o hb);have ox:g<wa.heap.size:=Nat.lt_of_lt_of_le y_ hb.size;clear hb;clear q0 q1;(iterate 22 (refine zt aF ?_;try simp only [Act.put,cr,cj,ch,UC,UB,VB]));refine bz ?_;clear aF;go_wp2_with fail;refine (cR (base:=base) (at_:=p) ⟨_,_,_,_,_,_,H.o.but wJ.o jS.o (by omega)⟩).mono ?_;rintro e w4 ⟨rfl,hS,dB⟩;have iW:=zh hS;have Fo:=zh ((cH wJ.o dA iw).trans dB);clear hS dB;go_wp2_with fail;exact bodyPost_ret (v:=.tuple #[]) (by first | rfl | simp [results,results52,go_sem]) rfl ⟨rfl,iW.o,Fo.o⟩
    have f10:((x.toNat:Int) == 10)=false:=du oa;clear d9;go_wp2_with fail;refine wp_region_held_drew (S:=(fun w'=>w'.cell? ⟨g,0,none⟩=some (.string s)∧w'.cell? ⟨g,1,none⟩=some (.int .i64 p))) (by kernel_rfl) (by exact ⟨q0,q1⟩) (fun ac=>?_);refine bw ?_ ac;clear ac;rintro wa hb ac;refine aK 22 (by kernel_rfl) (fun aF=>?_);have jS:Hd (aj wa g 59 #[.string s,.int .i64 p,.slice A l.length c,.slice R m d,.int .i64 0,.string ⟨#[]⟩,.int .i64 0]):=zh (HK.o.below hb y_);have wJ:Hd (ay (fun k=>k=g) w wa):=zh (HB.o.then_ hb);have Iq:Hd (wa.ownsRow w.heap.size 5 1 u3 acc.length (vb acc)):=zh (own_below HO.o hb);have ox:g<wa.heap.size:=Nat.lt_of_lt_of_le y_ hb.size;clear hb;clear q0 q1;(iterate 22 (refine zt aF ?_;try simp only [Act.put,cr,cj,ch,UC,UB,VB]));refine bz ?_;clear aF;have q0:=jS.o.cell 0;have q1:=jS.o.cell 1;simp at q0 q1;go_wp2_with fail;refine wp_region_held_drew (S:=(fun w'=>w'.cell? ⟨g,0,none⟩=some (.string s)∧w'.cell? ⟨g,1,none⟩=some (.int .i64 p))) (by kernel_rfl) (by exact ⟨q0,q1⟩) (fun ac=>?_);refine bw ?_ ac;clear ac;rintro wb hb ac;refine aK 10 (by kernel_rfl) (fun aF=>?_);have lT:Hd (aj wb g 59 #[.string s,.int .i64 p,.slice A l.length c,.slice R m d,.int .i64 0,.string ⟨#[]⟩,.int .i64 0]):=zh (jS.o.below hb ox);have wI:Hd (ay (fun k=>k=g) w wb):=zh (wJ.o.then_ hb);have nV:Hd (wb.ownsRow w.heap.size 5 1 u3 acc.length (vb acc)):=zh (own_below Iq.o hb);have iQ:g<wb.heap.size:=Nat.lt_of_lt_of_le ox hb.size;clear hb;clear q0 q1;(iterate 10 (refine zt aF ?_;try simp only [Act.put,cr,cj,ch,UC,UB,VB]));refine bz ?_;clear aF;have q0:=lT.o.cell 0
    have q1:=lT.o.cell 1;simp at q0 q1;have qf:=lT.o.frozen;by_cases sc:x=34
    · subst sc
      exfalso
      have h1:=HT.o;unfold bP at h1;rw [if_neg (by decide),if_pos rfl] at h1;cases h1
    have Sj:((x.toNat:Int) == 34)=false:=du sc;by_cases C8:x=92
    · subst C8
      by_cases Rj:p+1<s.size
      case neg=>
        obtain ⟨P1,O'⟩:∃ P1,P1=p+1:=⟨_,rfl⟩;(have Sb:s.size≤P1:=by omega);(have hP1n:¬ (P1:Int)<(s.size:Int):=by omega);(have hP1d:decide ((P1:Int)<(s.size:Int))=false:=by simp;omega);(have hP1m:decide (P1<s.size)=false:=by simp;omega);(have La:(p:Int)+1=(P1:Int):=by omega);(have Sa:IntKind.i64.wrap (P1:Int)=(P1:Int):=by rw [IntKind.wrap_i64];omega);clear O';go_wp2_with fail;refine wp_region_held_drew (S:=(fun w'=>w'.cell? ⟨g,0,none⟩=some (.string s)∧w'.cell? ⟨g,1,none⟩=some (.int .i64 p))) (by kernel_rfl) (by exact ⟨q0,q1⟩) (fun ac=>?_);refine bw ?_ ac;clear ac;rintro wc hb ac;refine aK 11 (by kernel_rfl) (fun aF=>?_);have nF:Hd (aj wc g 59 #[.string s,.int .i64 p,.slice A l.length c,.slice R m d,.int .i64 0,.string ⟨#[]⟩,.int .i64 0]):=zh (lT.o.below hb iQ);have Ia:Hd (ay (fun k=>k=g) w wc):=zh (wI.o.then_ hb);have Gg:Hd (wc.ownsRow w.heap.size 5 1 u3 acc.length (vb acc)):=zh (own_below nV.o hb);have pt:g<wc.heap.size:=Nat.lt_of_lt_of_le iQ hb.size;clear hb;clear q0 q1;(iterate 11 (refine zt aF ?_;try simp only [Act.put,cr,cj,ch,UC,UB,VB]));refine bz ?_;clear aF;have q0:=nF.o.cell 0;have q1:=nF.o.cell 1;simp at q0 q1;clear qf;have qf:=nF.o.frozen;go_wp2_with fail;refine (cR (base:=base) (at_:=p) ⟨_,_,_,_,_,_,H.o.but Ia.o nF.o (by omega)⟩).mono ?_;rintro e w4 ⟨rfl,hS,dB⟩;have iW:=zh hS;have Fo:=zh ((cH Ia.o dA iw).trans dB);clear hS dB;go_wp2_with fail;exact bodyPost_ret (v:=.tuple #[]) (by first | rfl | simp [results,results52,go_sem]) rfl ⟨rfl,iW.o,Fo.o⟩
      obtain ⟨y,hy⟩:∃ y,s[p+1]=y:=⟨_,rfl⟩
      have d9:s.data.toList.drop (p+1)=y :: s.data.toList.drop (p+2):=by
        rw [List.drop_eq_getElem_cons (by omega),Array.getElem_toList];exact congrArg (· :: _) hy
      rw [d9] at HT;clear d9;obtain ⟨P1,O'⟩:∃ P1,P1=p+1:=⟨_,rfl⟩;(have Sb:P1<s.size:=by omega);(have hyP:s[P1]=y:=by simp only [O'];exact hy);(have Xm:(P1:Int)<(s.size:Int):=by omega);(have La:(p:Int)+1=(P1:Int):=by omega);(have Sa:IntKind.i64.wrap (P1:Int)=(P1:Int):=by rw [IntKind.wrap_i64];omega);clear hy O'
      have HE:Hd (∀ z,oG y=some z→bP at_ (s.data.toList.drop (p+2)) (p+2) (acc ++ [z]) = .error er):=zh (by
        intro z hz;have h1:=HT.o;unfold bP at h1;rw [if_neg (by decide),if_neg (by decide),if_pos rfl] at h1;simp only [hz] at h1
        exact h1)
      clear HT;go_wp2_with fail;refine wp_region_held_drew (S:=(fun w'=>w'.cell? ⟨g,0,none⟩=some (.string s)∧w'.cell? ⟨g,1,none⟩=some (.int .i64 p))) (by kernel_rfl) (by exact ⟨q0,q1⟩) (fun ac=>?_);refine bw ?_ ac;clear ac;rintro wc hb ac;refine aK 11 (by kernel_rfl) (fun aF=>?_);have nF:Hd (aj wc g 59 #[.string s,.int .i64 p,.slice A l.length c,.slice R m d,.int .i64 0,.string ⟨#[]⟩,.int .i64 0]):=zh (lT.o.below hb iQ);have Ia:Hd (ay (fun k=>k=g) w wc):=zh (wI.o.then_ hb);have Gg:Hd (wc.ownsRow w.heap.size 5 1 u3 acc.length (vb acc)):=zh (own_below nV.o hb);have pt:g<wc.heap.size:=Nat.lt_of_lt_of_le iQ hb.size;clear hb;clear q0 q1;(iterate 11 (refine zt aF ?_;try simp only [Act.put,cr,cj,ch,UC,UB,VB]));refine bz ?_;clear aF;have q0:=nF.o.cell 0;have q1:=nF.o.cell 1;simp at q0 q1;go_wp2_with fail;refine wp_region_held_drew (S:=(fun w'=>w'.cell? ⟨g,0,none⟩=some (.string s)∧w'.cell? ⟨g,1,none⟩=some (.int .i64 p))) (by kernel_rfl) (by exact ⟨q0,q1⟩) (fun ac=>?_);refine bw ?_ ac;clear ac;rintro wd hb ac;refine aK 11 (by kernel_rfl) (fun aF=>?_);have qE:Hd (aj wd g 59 #[.string s,.int .i64 p,.slice A l.length c,.slice R m d,.int .i64 0,.string ⟨#[]⟩,.int .i64 0]):=zh (nF.o.below hb pt);have nu:Hd (ay (fun k=>k=g) w wd):=zh (Ia.o.then_ hb);have qO:Hd (wd.ownsRow w.heap.size 5 1 u3 acc.length (vb acc)):=zh (own_below Gg.o hb);have V9:g<wd.heap.size:=Nat.lt_of_lt_of_le pt hb.size;clear hb;clear q0 q1;(iterate 11 (refine zt aF ?_;try simp only [Act.put,cr,cj,ch,UC,UB,VB]));refine bz ?_;clear aF;have q0:=qE.o.cell 0;have q1:=qE.o.cell 1;simp at q0 q1;clear qf
      have qf:=qE.o.frozen;by_cases QF:y=92
      · subst QF
        have fH:=zh (HE.o 92 (by decide));have rZ:Hd (Row (wd.alloc (.cells #[.int .u8 92] 5)) (fun k=>k=wd.heap.size) 1 (.slice (some ⟨wd.heap.size,0,none⟩) 1 1) 1 [.int .u8 92]):=zh ((aj.new wd 5 #[.int .u8 92]).row (S:=fun k=>k=wd.heap.size) (n:=1) (size:=1) rfl (by unfold maxLen;omega) rfl);go_wp2_with (at_builtin;refine au _ rfl _ _ 40 rfl w.heap.size 5 i0 _ 1 1 underlying40 fL ga f_ fZ rfl (by omega) u3 acc.length (vb acc) rfl (own_below qO.o (aG _ _)) (fun k=>k=wd.heap.size) (.slice (some ⟨wd.heap.size,0,none⟩) 1 1) 1 [.int .u8 92] rfl rZ.o (by simp [Value.oneCell']) (by unfold maxLen;omega) (by omega) (by have:=nu.o.size;simp;omega) ?c1)
        case c1=>
        intro v' w5 aD hg bN cX;have pF:Hd (w5.ownsRow w.heap.size 5 1 v' (acc ++ [92]).length (vb (acc ++ [92]))):=zh (by simpa [vb] using aD);have iG:Hd (aj w5 g 59 #[.string s,.int .i64 p,.slice A l.length c,.slice R m d,.int .i64 0,.string ⟨#[]⟩,.int .i64 0]):=zh ((qE.o.alloc _).grown hg (fun e=>cD qO.o qE.o (by decide) e.symm));have nr:Hd (ay (fun k=>k=g) w w5):=zh ((nu.o.alloc _).trans (ay.of_grown (X:=fun k=>w.heap.size≤k) hg (fun b hb=>(qO.o.lt b hb).1)) (fun k hk h9=>absurd hk (by omega)));clear aD hg bN cX rZ;have z0:=iG.o.cell 0;have z1:=iG.o.cell 1;simp at z0 z1;have zf:=iG.o.frozen;have zl:=iG.o.lt;have xL:Hd (aj (w5.setCell ⟨g,1,none⟩ (.int .i64 ((p:Int)+2))) g 59 #[.string s,.int .i64 ((p:Int)+2),.slice A l.length c,.slice R m d,.int .i64 0,.string ⟨#[]⟩,.int .i64 0]):=zh (by simpa using iG.o.set_ 1 (.int .i64 ((p:Int)+2)));have wU:Hd (ay (fun k=>k=g) w (w5.setCell ⟨g,1,none⟩ (.int .i64 ((p:Int)+2)))):=zh (nr.o.set_ (p:=⟨g,1,none⟩) (.inr rfl) _);have Aw:Hd ((w5.setCell ⟨g,1,none⟩ (.int .i64 ((p:Int)+2))).ownsRow w.heap.size 5 1 v' (acc ++ [92]).length (vb (acc ++ [92]))):=zh (bk pF.o fun k hk=>Below.heap_setCell w5 ⟨g,1,none⟩ _ k (fun e=>by have h9:=(pF.o.lt k hk).1;have h8:k=g:=e;omega));clear q0 q1 qf;go_wp2_with fail
        go_roundg (s.size+1 - (p+2))
        case measure=>omega
        case rel=>exact ⟨p+2,acc ++ [92],rfl,by omega,by omega,by simp;omega,Aw,wU,by simpa using xL,fH⟩
      have g92:((y.toNat:Int) == 92)=false:=du QF;by_cases QG:y=34
      · subst QG
        have fH:=zh (HE.o 34 (by decide));have rZ:Hd (Row (wd.alloc (.cells #[.int .u8 34] 5)) (fun k=>k=wd.heap.size) 1 (.slice (some ⟨wd.heap.size,0,none⟩) 1 1) 1 [.int .u8 34]):=zh ((aj.new wd 5 #[.int .u8 34]).row (S:=fun k=>k=wd.heap.size) (n:=1) (size:=1) rfl (by unfold maxLen;omega) rfl);go_wp2_with (at_builtin;refine au _ rfl _ _ 40 rfl w.heap.size 5 i0 _ 1 1 underlying40 fL ga f_ fZ rfl (by omega) u3 acc.length (vb acc) rfl (own_below qO.o (aG _ _)) (fun k=>k=wd.heap.size) (.slice (some ⟨wd.heap.size,0,none⟩) 1 1) 1 [.int .u8 34] rfl rZ.o (by simp [Value.oneCell']) (by unfold maxLen;omega) (by omega) (by have:=nu.o.size;simp;omega) ?c2)
        case c2=>
        intro v' w5 aD hg bN cX;have pF:Hd (w5.ownsRow w.heap.size 5 1 v' (acc ++ [34]).length (vb (acc ++ [34]))):=zh (by simpa [vb] using aD);have iG:Hd (aj w5 g 59 #[.string s,.int .i64 p,.slice A l.length c,.slice R m d,.int .i64 0,.string ⟨#[]⟩,.int .i64 0]):=zh ((qE.o.alloc _).grown hg (fun e=>cD qO.o qE.o (by decide) e.symm));have nr:Hd (ay (fun k=>k=g) w w5):=zh ((nu.o.alloc _).trans (ay.of_grown (X:=fun k=>w.heap.size≤k) hg (fun b hb=>(qO.o.lt b hb).1)) (fun k hk h9=>absurd hk (by omega)));clear aD hg bN cX rZ;have z0:=iG.o.cell 0;have z1:=iG.o.cell 1;simp at z0 z1;have zf:=iG.o.frozen;have zl:=iG.o.lt;have xL:Hd (aj (w5.setCell ⟨g,1,none⟩ (.int .i64 ((p:Int)+2))) g 59 #[.string s,.int .i64 ((p:Int)+2),.slice A l.length c,.slice R m d,.int .i64 0,.string ⟨#[]⟩,.int .i64 0]):=zh (by simpa using iG.o.set_ 1 (.int .i64 ((p:Int)+2)));have wU:Hd (ay (fun k=>k=g) w (w5.setCell ⟨g,1,none⟩ (.int .i64 ((p:Int)+2)))):=zh (nr.o.set_ (p:=⟨g,1,none⟩) (.inr rfl) _);have Aw:Hd ((w5.setCell ⟨g,1,none⟩ (.int .i64 ((p:Int)+2))).ownsRow w.heap.size 5 1 v' (acc ++ [34]).length (vb (acc ++ [34]))):=zh (bk pF.o fun k hk=>Below.heap_setCell w5 ⟨g,1,none⟩ _ k (fun e=>by have h9:=(pF.o.lt k hk).1;have h8:k=g:=e;omega));clear q0 q1 qf;go_wp2_with fail
        go_roundg (s.size+1 - (p+2))
        case measure=>omega
        case rel=>exact ⟨p+2,acc ++ [34],rfl,by omega,by omega,by simp;omega,Aw,wU,by simpa using xL,fH⟩
      have g34:((y.toNat:Int) == 34)=false:=du QG;by_cases G8:y=110
      · subst G8
        have fH:=zh (HE.o 10 (by decide));have rZ:Hd (Row (wd.alloc (.cells #[.int .u8 10] 5)) (fun k=>k=wd.heap.size) 1 (.slice (some ⟨wd.heap.size,0,none⟩) 1 1) 1 [.int .u8 10]):=zh ((aj.new wd 5 #[.int .u8 10]).row (S:=fun k=>k=wd.heap.size) (n:=1) (size:=1) rfl (by unfold maxLen;omega) rfl);go_wp2_with (at_builtin;refine au _ rfl _ _ 40 rfl w.heap.size 5 i0 _ 1 1 underlying40 fL ga f_ fZ rfl (by omega) u3 acc.length (vb acc) rfl (own_below qO.o (aG _ _)) (fun k=>k=wd.heap.size) (.slice (some ⟨wd.heap.size,0,none⟩) 1 1) 1 [.int .u8 10] rfl rZ.o (by simp [Value.oneCell']) (by unfold maxLen;omega) (by omega) (by have:=nu.o.size;simp;omega) ?c3)
        case c3=>
        intro v' w5 aD hg bN cX;have pF:Hd (w5.ownsRow w.heap.size 5 1 v' (acc ++ [10]).length (vb (acc ++ [10]))):=zh (by simpa [vb] using aD);have iG:Hd (aj w5 g 59 #[.string s,.int .i64 p,.slice A l.length c,.slice R m d,.int .i64 0,.string ⟨#[]⟩,.int .i64 0]):=zh ((qE.o.alloc _).grown hg (fun e=>cD qO.o qE.o (by decide) e.symm));have nr:Hd (ay (fun k=>k=g) w w5):=zh ((nu.o.alloc _).trans (ay.of_grown (X:=fun k=>w.heap.size≤k) hg (fun b hb=>(qO.o.lt b hb).1)) (fun k hk h9=>absurd hk (by omega)));clear aD hg bN cX rZ;have z0:=iG.o.cell 0;have z1:=iG.o.cell 1;simp at z0 z1;have zf:=iG.o.frozen;have zl:=iG.o.lt;have xL:Hd (aj (w5.setCell ⟨g,1,none⟩ (.int .i64 ((p:Int)+2))) g 59 #[.string s,.int .i64 ((p:Int)+2),.slice A l.length c,.slice R m d,.int .i64 0,.string ⟨#[]⟩,.int .i64 0]):=zh (by simpa using iG.o.set_ 1 (.int .i64 ((p:Int)+2)));have wU:Hd (ay (fun k=>k=g) w (w5.setCell ⟨g,1,none⟩ (.int .i64 ((p:Int)+2)))):=zh (nr.o.set_ (p:=⟨g,1,none⟩) (.inr rfl) _);have Aw:Hd ((w5.setCell ⟨g,1,none⟩ (.int .i64 ((p:Int)+2))).ownsRow w.heap.size 5 1 v' (acc ++ [10]).length (vb (acc ++ [10]))):=zh (bk pF.o fun k hk=>Below.heap_setCell w5 ⟨g,1,none⟩ _ k (fun e=>by have h9:=(pF.o.lt k hk).1;have h8:k=g:=e;omega));clear q0 q1 qf;go_wp2_with fail
        go_roundg (s.size+1 - (p+2))
        case measure=>omega
        case rel=>exact ⟨p+2,acc ++ [10],rfl,by omega,by omega,by simp;omega,Aw,wU,by simpa using xL,fH⟩
      have Xx:((y.toNat:Int) == 110)=false:=du G8;by_cases JY:y=116
      · subst JY
        have fH:=zh (HE.o 9 (by decide));have rZ:Hd (Row (wd.alloc (.cells #[.int .u8 9] 5)) (fun k=>k=wd.heap.size) 1 (.slice (some ⟨wd.heap.size,0,none⟩) 1 1) 1 [.int .u8 9]):=zh ((aj.new wd 5 #[.int .u8 9]).row (S:=fun k=>k=wd.heap.size) (n:=1) (size:=1) rfl (by unfold maxLen;omega) rfl);go_wp2_with (at_builtin;refine au _ rfl _ _ 40 rfl w.heap.size 5 i0 _ 1 1 underlying40 fL ga f_ fZ rfl (by omega) u3 acc.length (vb acc) rfl (own_below qO.o (aG _ _)) (fun k=>k=wd.heap.size) (.slice (some ⟨wd.heap.size,0,none⟩) 1 1) 1 [.int .u8 9] rfl rZ.o (by simp [Value.oneCell']) (by unfold maxLen;omega) (by omega) (by have:=nu.o.size;simp;omega) ?c4)
        case c4=>
        intro v' w5 aD hg bN cX;have pF:Hd (w5.ownsRow w.heap.size 5 1 v' (acc ++ [9]).length (vb (acc ++ [9]))):=zh (by simpa [vb] using aD);have iG:Hd (aj w5 g 59 #[.string s,.int .i64 p,.slice A l.length c,.slice R m d,.int .i64 0,.string ⟨#[]⟩,.int .i64 0]):=zh ((qE.o.alloc _).grown hg (fun e=>cD qO.o qE.o (by decide) e.symm));have nr:Hd (ay (fun k=>k=g) w w5):=zh ((nu.o.alloc _).trans (ay.of_grown (X:=fun k=>w.heap.size≤k) hg (fun b hb=>(qO.o.lt b hb).1)) (fun k hk h9=>absurd hk (by omega)));clear aD hg bN cX rZ;have z0:=iG.o.cell 0;have z1:=iG.o.cell 1;simp at z0 z1;have zf:=iG.o.frozen;have zl:=iG.o.lt;have xL:Hd (aj (w5.setCell ⟨g,1,none⟩ (.int .i64 ((p:Int)+2))) g 59 #[.string s,.int .i64 ((p:Int)+2),.slice A l.length c,.slice R m d,.int .i64 0,.string ⟨#[]⟩,.int .i64 0]):=zh (by simpa using iG.o.set_ 1 (.int .i64 ((p:Int)+2)));have wU:Hd (ay (fun k=>k=g) w (w5.setCell ⟨g,1,none⟩ (.int .i64 ((p:Int)+2)))):=zh (nr.o.set_ (p:=⟨g,1,none⟩) (.inr rfl) _);have Aw:Hd ((w5.setCell ⟨g,1,none⟩ (.int .i64 ((p:Int)+2))).ownsRow w.heap.size 5 1 v' (acc ++ [9]).length (vb (acc ++ [9]))):=zh (bk pF.o fun k hk=>Below.heap_setCell w5 ⟨g,1,none⟩ _ k (fun e=>by have h9:=(pF.o.lt k hk).1;have h8:k=g:=e;omega));clear q0 q1 qf;go_wp2_with fail
        go_roundg (s.size+1 - (p+2))
        case measure=>omega
        case rel=>exact ⟨p+2,acc ++ [9],rfl,by omega,by omega,by simp;omega,Aw,wU,by simpa using xL,fH⟩
      have g116:((y.toNat:Int) == 116)=false:=du JY;go_wp2_with fail;refine (cR (base:=base) (at_:=p) ⟨_,_,_,_,_,_,H.o.but nu.o qE.o (by omega)⟩).mono ?_;rintro e w4 ⟨rfl,hS,dB⟩;have iW:=zh hS;have Fo:=zh ((cH nu.o dA iw).trans dB);clear hS dB;go_wp2_with fail;exact bodyPost_ret (v:=.tuple #[]) (by first | rfl | simp [results,results52,go_sem]) rfl ⟨rfl,iW.o,Fo.o⟩
    have Zl:((x.toNat:Int) == 92)=false:=du C8
    have fH:Hd (bP at_ (s.data.toList.drop (p+1)) (p+1) (acc ++ [x]) = .error er):=zh (by
      have h1:=HT.o;unfold bP at h1;rw [if_neg oa,if_neg sc,if_neg C8] at h1
      exact h1)
    clear HT;have rZ:Hd (Row (wb.alloc (.cells #[.int .u8 x.toNat] 5)) (fun k=>k=wb.heap.size) 1 (.slice (some ⟨wb.heap.size,0,none⟩) 1 1) 1 [.int .u8 x.toNat]):=zh ((aj.new wb 5 #[.int .u8 x.toNat]).row (S:=fun k=>k=wb.heap.size) (n:=1) (size:=1) rfl (by unfold maxLen;omega) rfl);go_wp2_with (at_builtin;refine au _ rfl _ _ 40 rfl w.heap.size 5 i0 _ 1 1 underlying40 fL ga f_ fZ rfl (by omega) u3 acc.length (vb acc) rfl (own_below nV.o (aG _ _)) (fun k=>k=wb.heap.size) (.slice (some ⟨wb.heap.size,0,none⟩) 1 1) 1 [.int .u8 x.toNat] rfl rZ.o (by simp [Value.oneCell']) (by unfold maxLen;omega) (by omega) (by have:=wI.o.size;simp;omega) ?c5)
    case c5=>
    intro v' w5 aD hg bN cX;have pF:Hd (w5.ownsRow w.heap.size 5 1 v' (acc ++ [x]).length (vb (acc ++ [x]))):=zh (by simpa [vb] using aD);have iG:Hd (aj w5 g 59 #[.string s,.int .i64 p,.slice A l.length c,.slice R m d,.int .i64 0,.string ⟨#[]⟩,.int .i64 0]):=zh ((lT.o.alloc _).grown hg (fun e=>cD nV.o lT.o (by decide) e.symm));have nr:Hd (ay (fun k=>k=g) w w5):=zh ((wI.o.alloc _).trans (ay.of_grown (X:=fun k=>w.heap.size≤k) hg (fun b hb=>(nV.o.lt b hb).1)) (fun k hk h9=>absurd hk (by omega)));clear aD hg bN cX rZ;have z0:=iG.o.cell 0;have z1:=iG.o.cell 1;simp at z0 z1;have zf:=iG.o.frozen;have zl:=iG.o.lt;have xL:Hd (aj (w5.setCell ⟨g,1,none⟩ (.int .i64 ((p:Int)+1))) g 59 #[.string s,.int .i64 ((p:Int)+1),.slice A l.length c,.slice R m d,.int .i64 0,.string ⟨#[]⟩,.int .i64 0]):=zh (by simpa using iG.o.set_ 1 (.int .i64 ((p:Int)+1)));have wU:Hd (ay (fun k=>k=g) w (w5.setCell ⟨g,1,none⟩ (.int .i64 ((p:Int)+1)))):=zh (nr.o.set_ (p:=⟨g,1,none⟩) (.inr rfl) _);have Aw:Hd ((w5.setCell ⟨g,1,none⟩ (.int .i64 ((p:Int)+1))).ownsRow w.heap.size 5 1 v' (acc ++ [x]).length (vb (acc ++ [x]))):=zh (bk pF.o fun k hk=>Below.heap_setCell w5 ⟨g,1,none⟩ _ k (fun e=>by have h9:=(pF.o.lt k hk).1;have h8:k=g:=e;omega));clear q0 q1 qf;go_wp2_with fail
    go_roundg (s.size+1 - (p+1))
    case measure=>omega
    case rel=>exact ⟨p+1,acc ++ [x],rfl,by omega,by omega,by simp;omega,Aw,wU,by simpa using xL,fH⟩
theorem IW {s:ByteArray} {p:Nat} (hp:p+2≤s.size) (hr:dK (s.data.toList.drop p)=none):(s.data.toList.drop p).getD 1 0=42∧∀ P,p+2≤P→P≤s.size→qv s P ⟨#[42,47]⟩=false:=by
  unfold dK at hr;split at hr
  · rename_i Ej
    refine ⟨Ej,?_⟩;rw [List.drop_drop] at hr;(have hz:(s.data.toList.drop (p+2)).length=s.size - (p+2):=by rw [List.length_drop,lD]);split at hr
    · rename_i h0
      rcases Lib.index_spec (s.data.toList.drop (p+2)) [42,47] with ⟨h1,h2⟩ | ⟨i,h1,h2,h3,h4⟩
      · intro P h5 h6
        obtain ⟨k,rfl⟩:∃ k,P=p+2+k:=⟨P - (p+2),by omega⟩;rw [EX (by omega)];exact h2 k (by omega)
      · omega
    · cases hr
  · cases hr
theorem IG:∀ k,k<36→(mn.getD k ⟨#[]⟩).size=1→∃ c ∈ kY,mn.getD k ⟨#[]⟩=bs [c]:=by decide +kernel
theorem LK:∀ c ∈ kY,0≤Lib.indexByte kY c:=by decide +kernel
theorem II {s:ByteArray} {p:Nat} (hp:p<s.size) (hn:ce (bs (s.data.toList.drop p))=0):∀ k,k<36→qv s p (mn.getD k ⟨#[]⟩)=false:=by
  intro k hk;rw [Bool.eq_false_iff];intro ha;obtain ⟨h1,h2⟩:=(nj (Nat.le_of_lt hp)).1 ha;obtain ⟨h3,h4,h5,h6⟩:=qY k hk;have ed:(bs (s.data.toList.drop p)).data.toList=s.data.toList.drop p:=rfl;unfold ce at hn;split at hn
  · cases hn
  rename_i n3
  split at hn
  · cases hn
  rename_i n2
  split at hn
  · cases hn
  rename_i n1
  (have je:(mn.getD k ⟨#[]⟩).size=1∨(mn.getD k ⟨#[]⟩).size=2∨(mn.getD k ⟨#[]⟩).size=3:=by omega);rcases je with e | e | e
  · obtain ⟨c,hc,e2⟩:=IG k hk e
    rw [e,e2] at h2;have h2:(s.data.toList.drop p).take 1=[c]:=h2;apply n1
    have hh:(bs (s.data.toList.drop p)).data.toList.headD 0=c:=by
      rw [ed];cases hd:s.data.toList.drop p with
      | nil=>rw [hd] at h2;cases h2
      | cons x t=>
        rw [hd] at h2;have h2:[x]=[c]:=h2
        injection h2
    rw [hh];exact LK c hc
  · apply n2
    have:=h4 e;rw [Nx];rw [e] at h2;rw [h2,J2];exact this
  · apply n3
    have e3:=h3 e;rw [e,e3] at h2;have h2:(s.data.toList.drop p).take 3=[46,46,46]:=h2;rw [ed]
    show [46,46,46].isPrefixOf (s.data.toList.drop p)=true
    rw [List.isPrefixOf_iff_prefix,List.prefix_iff_eq_take];exact h2.symm
theorem Gp {p:Nat} (h:ey base w g s p l) (hl:l.length≤1000000) (iw:base≤w.heap.size) (hs:s.size≤140737488355328) (hp:p<s.size) (hc:s[p]≠59) (hn:ce (bs (s.data.toList.drop p))=0) :
    Calls prog 53 #[.pointer (some ⟨g,0,none⟩)] w fun e w'=>e = .returned (.tuple #[])∧Fp w' g∧Below base w w':=by
  have hF:=II hp hn;have HA:Hd (∀ (W:World) (k:Nat),ey base W g s p l→k<36→Calls prog 46 #[.pointer (some ⟨g,0,none⟩),.string (mn.getD k ⟨#[]⟩)] W fun e w'=>e = .returned (.bool (qv s p (mn.getD k ⟨#[]⟩)))∧Below W.heap.size W w'):=zh fun W k hW hk=>eU hW (Nat.le_of_lt hp) hs (by have:=(qY k hk).2.2.2;omega);have qN:=zh h;obtain ⟨q0,q1,qf,ql,qb⟩:=h.cells;have HF:=zh hF;(have D5:(p:Int)<(s.size:Int):=by omega);(have uE:(s.size:Int)≤140737488355328:=by omega);obtain ⟨c,GZ⟩:∃ c,s[p]=c:=⟨_,rfl⟩;rw [GZ] at hc
  have hcf:((c.toNat:Int) == 59)=false:=by
    rw [beq_eq_false_iff_ne];intro e;apply hc;exact UInt8.toNat_inj.1 (by show c.toNat=59;omega)
  clear h hF hn hc;go_enter func53,ntmps53;go_wp2_with fail
  go_region
  all_goals
    go_wp2_with fail
    (try go_step3)
    go_wp2_with fail;obtain ⟨W1,ye⟩:∃ W1,W1=(w.alloc (.cells Bd 9)).drew:=⟨_,rfl⟩;have X6:Hd (Below w.heap.size w W1):=zh (by rw [ye];exact (aG _ _).drew);have jS:Hd (aj W1 w.heap.size 9 Bd):=zh (by rw [ye];exact (aj.new w _ _).drew);have et:w.heap.size<W1.heap.size:=jS.o.lt
    go_loopg [4] 36 (fun m i wr=>∃ k:Nat,m=36 - k∧k≤36∧i = .int .i64 k∧Hd (Below W1.heap.size W1 wr))
    case atStart=>exact ⟨0,by simp,by omega,rfl,zh (by rw [ye];exact Below.refl _ _)⟩
    case round=>
      clear q0 q1 qf;obtain ⟨k,rfl,hk,rfl,HB⟩:=hrel;have LN:=HB.o.size;have sn:Hd (Below w.heap.size w wr):=zh (X6.o.trans (HB.o.mono (by omega)));have T0:=zh (qN.o.below sn.o);have Uf:=zh (jS.o.below HB.o (by omega));by_cases WS:k<36
      · have hc:=Uf.o.cell k
        rw [yY k (by omega)] at hc;(have WP:decide ((k:Int)<36)=true:=by simp;omega);(have Rz:(k:Int)<36:=by omega);go_wp2_with fail;refine (HA.o _ k T0.o (by omega)).mono ?_;rintro e w2 ⟨rfl,cK⟩;have aE:=zh cK;have ep:=cK.size;clear cK;rw [HF.o k WS];go_wp2_with fail
        go_roundg (36 - (k+1))
        case measure=>omega
        case rel=>exact ⟨k+1,rfl,by omega,by go_num,zh (HB.o.trans (aE.o.mono LN))⟩
      · have WP:decide ((k:Int)<36)=false:=by simp;omega
        (have Rz:¬ (k:Int)<36:=by omega);go_wp2_with fail;refine (cR T0.o).mono ?_;rintro e w3 ⟨rfl,lJ,ft⟩;have rY:=zh lJ;have bf:Hd (Below base w w3):=zh ((sn.o.mono iw).trans ft);clear lJ ft;go_wp2_with fail
        go_end0
        exact ⟨rfl,rY.o,bf.o⟩
theorem Gx {p:Nat} (h:ey base w g s p l) (hl:l.length≤100000) (iw:base≤w.heap.size) (hs:s.size≤65536) (hA:qv s p ⟨#[47,42]⟩=true) (hp:p≤s.size) (hr:dK (s.data.toList.drop p)=none) :
    Calls prog 47 #[.pointer (some ⟨g,0,none⟩)] w fun e w'=>e = .returned (.tuple #[])∧Fp w' g∧Below base w w':=by
  obtain ⟨r_,b0,b1⟩:=(lj hp).1 hA;obtain ⟨-,x_⟩:=IW (by omega) hr;obtain ⟨i,hi⟩:∃ i,i=s.size:=⟨_,rfl⟩
  have FS:qv s p ⟨#[47,47]⟩=false:=by
    rw [Bool.eq_false_iff];intro h;obtain ⟨h3,-,h2⟩:=(lj hp).1 h;rw [b1] at h2;cases h2
  have WH:p+2≤i:=by omega
  have Ju:xX s p (p+2)=false:=by
    rw [j9 (by omega) r_,j9 (by omega) (by omega),FG,b1,b0];rfl
  obtain ⟨A,cc,R,m,d,xs,hm⟩:=h;have H:=zh hm;have T':Hd (∀ P,p+2≤P→P<i→qv s P ⟨#[42,47]⟩=false):=zh fun P h1 h2=>x_ P h1 (by omega);have HA:=zh FS;have gM:=zh iw;have X_:=zh Ju;have Ua:=zh hm.mle;(have uE:(s.size:Int)≤65536:=by omega);(have D5:(p:Int)+2≤(s.size:Int):=by omega);have hisz:i=s.size:=hi;obtain ⟨q0,q1,qf,ql,qb⟩:=hm.cells;clear hm x_ hr hA FS Ju hi b0 b1;go_enter func47,ntmps47;go_wp2_with fail;refine (eU H.o.t hp (by omega) (by decide)).mono ?_;rintro e w1 ⟨rfl,cB⟩;rw [HA.o];have Qb:Hd (km base w1 g s p l A cc R m d xs):=zh (H.o.below cB);have AP:Hd (Below base w w1):=zh (cB.mono iw);clear cB q0 q1 qf ql qb;obtain ⟨q0,q1,qf,ql,qb⟩:=Qb.o.cells;have qN:Hd (km base (w1.setCell ⟨g,1,none⟩ (.int .i64 ((p:Int)+2))) g s (p+2) l A cc R m d xs):=zh (by simpa using Qb.o.to_ (p:=p+2) (by omega));have cT:Hd (Below base w (w1.setCell ⟨g,1,none⟩ (.int .i64 ((p:Int)+2)))):=zh (AP.o.setCell qb _);go_wp2_with fail
  (try go_step3)
  go_wp2_with fail
  go_loopg [3] (i - p) (fun mm VT wr=>∃ P:Nat,mm=i+2 - P∧p+2≤P∧P≤i∧Hd (VT = .bool (xX s p P))∧Hd (km base wr g s P l A cc R m d xs)∧Hd (Below base w wr))
  case atStart=>exact ⟨p+2,by omega,Nat.le_refl _,by omega,zh (by rw [X_.o]),qN,cT⟩
  case round=>
    obtain ⟨P,rfl,GT,QD,HV,HS,HB⟩:=hrel;clear q0 q1 qf ql qb qN cT Qb AP;obtain ⟨q0,q1,qf,ql,qb⟩:=HS.o.cells;(have La:(P:Int)≤65536:=by omega);obtain ⟨fl,L4⟩:∃ fl,xX s p P=fl:=⟨_,rfl⟩;rw [L4] at HV;obtain rfl:=HV.o;have Ul:=zh L4;clear L4 HV;by_cases JJ:P<i
    · have cX:=T'.o P GT JJ
      (have fs:P<s.size:=by omega);(have Ie:(P:Int)<(s.size:Int):=by omega);go_wp2_with fail;refine wp_region_held_drew (S:=(fun w'=>w'.cell? ⟨g,0,none⟩=some (.string s)∧w'.cell? ⟨g,1,none⟩=some (.int .i64 P))) (by kernel_rfl) (by exact ⟨q0,q1⟩) (fun ac=>?_);refine bw ?_ ac;clear ac;rintro wb hb ac;refine aK 15 (by kernel_rfl) (fun aF=>?_);have fh:Hd (km base wb g s P l A cc R m d xs):=zh (HS.o.below hb);have aE:Hd (Below base w wb):=zh (HB.o.trans (hb.mono (by have h9:=HB.o.size;have h8:=gM.o;omega)));clear hb
      skip
      (iterate 12 (refine zt aF ?_;try simp only [Act.put,cr,cj,ch,UC,UB,VB]));refine fa (by kernel_rfl) (fun K hK=>?_);go_simp
      go_at_call 46
      refine (eU fh.o.t (by omega) (by omega) (by decide)).mono ?_;rintro e w4 ⟨rfl,dB⟩;rw [cX];have iW:Hd (km base w4 g s P l A cc R m d xs):=zh (fh.o.below dB);have bu:Hd (Below base w w4):=zh (aE.o.trans (dB.mono (by have h9:=aE.o.size;have h8:=gM.o;omega)));clear dB;obtain ⟨z0,z1,zf,zl,zb⟩:=iW.o.cells;refine hK.out _ _ ⟨z0,z1⟩ (fun ac=>?_);clear hK K;(try simp only [Act.put,cr,cj,ch,UC,UB,VB]);(iterate 2 (refine zt aF ?_;try simp only [Act.put,cr,cj,ch,UC,UB,VB]));refine bz ?_;clear aF;clear q0 q1 qf ql qb ac;obtain ⟨c,hc⟩:∃ c,s[P]=c:=⟨_,rfl⟩;have HC:=zh hc;have GK:=bu.o.size;(have Js:xX s p (P+1)=(fl || c == 10):=by rw [j9 (by omega) fs,Ul.o,HC.o]);have uw:=zh Js;clear Js;cases fl with
      | true=>
        go_wp2_with fail;refine wp_region_held_drew (S:=(fun w'=>w'.cell? ⟨g,0,none⟩=some (.string s)∧w'.cell? ⟨g,1,none⟩=some (.int .i64 P))) (by kernel_rfl) (by exact ⟨z0,z1⟩) (fun ac=>?_);refine bw ?_ ac;clear ac;rintro wc hb ac;refine aK 14 (by kernel_rfl) (fun aF=>?_);have kk:Hd (km base wc g s P l A cc R m d xs):=zh (iW.o.below hb);have aR:Hd (Below base w wc):=zh (bu.o.trans (hb.mono (by have h8:=gM.o;omega)));clear hb
        skip
        (iterate 2 (refine zt aF ?_;try simp only [Act.put,cr,cj,ch,UC,UB,VB]));(iterate 10 (refine ao (v:=undef) aF (by decide) (fun _ _ _ h=>h) (Or.inr ⟨by rfl,rfl⟩) (by assumption) ?_;try simp only [Act.put,cr,cj,ch,UC,UB,VB]));(iterate 2 (refine zt aF ?_;try simp only [Act.put,cr,cj,ch,UC,UB,VB]));refine bz ?_;clear aF;clear z0 z1 zf zl zb ac;obtain ⟨z0,z1,zf,zl,zb⟩:=kk.o.cells;go_wp2_with fail;have dI:Hd (km base (wc.setCell ⟨g,1,none⟩ (.int .i64 ((P:Int)+1))) g s (P+1) l A cc R m d xs):=zh (by simpa using kk.o.to_ (p:=P+1) (by omega));have a8:Hd (Below base w (wc.setCell ⟨g,1,none⟩ (.int .i64 ((P:Int)+1)))):=zh (aR.o.setCell zb _)
        go_roundg (i+2 - (P+1))
        case measure=>omega
        case rel=>exact ⟨P+1,rfl,by omega,by omega,zh (by rw [uw.o];rfl),dI,a8⟩
      | false=>
        by_cases zH:c=10
        · subst zH
          go_wp2_with fail;refine wp_region_held_drew (S:=(fun w'=>w'.cell? ⟨g,0,none⟩=some (.string s)∧w'.cell? ⟨g,1,none⟩=some (.int .i64 P))) (by kernel_rfl) (by exact ⟨z0,z1⟩) (fun ac=>?_);refine bw ?_ ac;clear ac;rintro wc hb ac;refine aK 14 (by kernel_rfl) (fun aF=>?_);have kk:Hd (km base wc g s P l A cc R m d xs):=zh (iW.o.below hb);have aR:Hd (Below base w wc):=zh (bu.o.trans (hb.mono (by have h8:=gM.o;omega)));clear hb
          skip
          (iterate 14 (refine zt aF ?_;try simp only [Act.put,cr,cj,ch,UC,UB,VB]));refine bz ?_;clear aF;clear z0 z1 zf zl zb ac;obtain ⟨z0,z1,zf,zl,zb⟩:=kk.o.cells;go_wp2_with fail;have dI:Hd (km base (wc.setCell ⟨g,1,none⟩ (.int .i64 ((P:Int)+1))) g s (P+1) l A cc R m d xs):=zh (by simpa using kk.o.to_ (p:=P+1) (by omega));have a8:Hd (Below base w (wc.setCell ⟨g,1,none⟩ (.int .i64 ((P:Int)+1)))):=zh (aR.o.setCell zb _)
          go_roundg (i+2 - (P+1))
          case measure=>omega
          case rel=>exact ⟨P+1,rfl,by omega,by omega,zh (by rw [uw.o];rfl),dI,a8⟩
        · have f10:((c.toNat:Int) == 10)=false:=du zH
          (have f11:(c == 10)=false:=by simpa using zH);have Ym:=zh f11;clear f11;go_wp2_with fail;refine wp_region_held_drew (S:=(fun w'=>w'.cell? ⟨g,0,none⟩=some (.string s)∧w'.cell? ⟨g,1,none⟩=some (.int .i64 P))) (by kernel_rfl) (by exact ⟨z0,z1⟩) (fun ac=>?_);refine bw ?_ ac;clear ac;rintro wc hb ac;refine aK 14 (by kernel_rfl) (fun aF=>?_);have kk:Hd (km base wc g s P l A cc R m d xs):=zh (iW.o.below hb);have aR:Hd (Below base w wc):=zh (bu.o.trans (hb.mono (by have h8:=gM.o;omega)));clear hb
          skip
          (iterate 14 (refine zt aF ?_;try simp only [Act.put,cr,cj,ch,UC,UB,VB]));refine bz ?_;clear aF;clear z0 z1 zf zl zb ac;obtain ⟨z0,z1,zf,zl,zb⟩:=kk.o.cells;go_wp2_with fail;have dI:Hd (km base (wc.setCell ⟨g,1,none⟩ (.int .i64 ((P:Int)+1))) g s (P+1) l A cc R m d xs):=zh (by simpa using kk.o.to_ (p:=P+1) (by omega));have a8:Hd (Below base w (wc.setCell ⟨g,1,none⟩ (.int .i64 ((P:Int)+1)))):=zh (aR.o.setCell zb _)
          go_roundg (i+2 - (P+1))
          case measure=>omega
          case rel=>exact ⟨P+1,rfl,by omega,by omega,zh (by rw [uw.o];rw [Ym.o];rfl),dI,a8⟩
    · obtain rfl:P=i:=by omega
      (have Ie:decide ((P:Int)<(s.size:Int))=false:=by simp;omega);(have hjn:¬ (P:Int)<(s.size:Int):=by omega);(have K_:decide ((P:Int)≥(s.size:Int))=true:=by simp;omega);go_wp2_with fail;refine wp_region_held_drew (S:=(fun w'=>w'.cell? ⟨g,0,none⟩=some (.string s)∧w'.cell? ⟨g,1,none⟩=some (.int .i64 P))) (by kernel_rfl) (by exact ⟨q0,q1⟩) (fun ac=>?_);refine bw ?_ ac;clear ac;rintro wb hb ac;refine aK 15 (by kernel_rfl) (fun aF=>?_);have fh:Hd (km base wb g s P l A cc R m d xs):=zh (HS.o.below hb);have aE:Hd (Below base w wb):=zh (HB.o.trans (hb.mono (by have h9:=HB.o.size;have h8:=gM.o;omega)));clear hb
      skip
      (iterate 11 (refine zt aF ?_;try simp only [Act.put,cr,cj,ch,UC,UB,VB]));iterate 3 (refine ao (v:=undef) aF (by decide) (fun _ _ _ h=>h) (Or.inr ⟨by rfl,rfl⟩) (by assumption) ?_;try simp only [Act.put,cr,cj,ch,UC,UB,VB])
      (refine zt aF ?_;try simp only [Act.put,cr,cj,ch,UC,UB,VB])
      refine bz ?_;clear aF;obtain ⟨z0,z1,zf,zl,zb⟩:=fh.o.cells;clear q0 q1 qf ql qb ac;have GK:=aE.o.size;go_wp2_with fail
      go_region
      all_goals
        have dI:Hd (ey base wb.drew g s P l):=zh (fh.o.t.below (Below.refl _ _).drew);have a8:Hd (Below base w wb.drew):=zh aE.o.drew;go_wp2_with fail;refine (cR dI.o).mono ?_;rintro e w7 ⟨rfl,lJ,ft⟩;have rY:=zh lJ;have bf:Hd (Below base w w7):=zh (a8.o.trans ft);clear lJ ft;go_wp2_with fail;exact bodyPost_ret (v:=.tuple #[]) (by first | rfl | simp [results,results47,go_sem]) rfl ⟨rfl,rY.o,bf.o⟩
end
set_option maxRecDepth 100000
set_option maxHeartbeats 8000000
section
variable {w w':World} {base g at_:Nat} {s:ByteArray} {l:List Tk}
def qw (g:Nat) (w:World) (s:ByteArray) (R:Except Int (List Tk)) (e:Ending) (w':World):Prop:=match R with
  | .ok ts=>∃ q,e = .returned (.pointer (some ⟨g,0,none⟩))∧ey g w' g s q ts∧Below g w w'
  | .error _=>∃ g' q,e = .returned (.pointer (some ⟨g',0,none⟩))∧aj w' g' 59 #[.string ⟨#[]⟩,.int .i64 0,.slice none 0 0,.slice none 0 0,.int .i64 3,.string ⟨#[]⟩,.int .i64 q]∧Below g w w'
theorem qw.ok_ {e:Ending} {ts:List Tk} (h:∃ q,e = .returned (.pointer (some ⟨g,0,none⟩))∧ey g w' g s q ts∧Below g w w'):qw g w s (.ok ts) e w':=h
theorem qw.err {e:Ending} {x:Int} (h:∃ g' q,e = .returned (.pointer (some ⟨g',0,none⟩))∧aj w' g' 59 #[.string ⟨#[]⟩,.int .i64 0,.slice none 0 0,.slice none 0 0,.int .i64 3,.string ⟨#[]⟩,.int .i64 q]∧Below g w w'):qw g w s (.error x) e w':=h
theorem Gt {R:Except Int (List Tk)} (hg:w.heap.size=g) (hs:s.size≤65536) (hv:gp s s.size 0=true) (hr:aX (s.size+1) s.data.toList 0 []=R) :
    Calls prog 27 #[.string s] w (qw g w s R):=by
  have HR:=zh hr;have P9:=zh hv;(have uE:(s.size:Int)≤65536:=by omega);have eN:s.data.toList.length=s.size:=lD s;have qN:Hd (ey w.heap.size (w.alloc (.cells #[.string s,.int .i64 0,.slice none 0 0,.slice none 0 0,.int .i64 0,.string ⟨#[]⟩,.int .i64 0] 59)) w.heap.size s 0 []):=zh ⟨none,0,none,0,0,[],aj.new _ _ _,World.ownsRow_nil _ _ _ _,World.ownsRow_nil _ _ _ _,Nat.le_refl _,Nat.le_refl _⟩;have cT:Hd (Below w.heap.size w (w.alloc (.cells #[.string s,.int .i64 0,.slice none 0 0,.slice none 0 0,.int .i64 0,.string ⟨#[]⟩,.int .i64 0] 59))):=zh ((Below.refl _ _).alloc (Nat.le_refl _) _);have HG:=zh hg;(have AF:g≤w.heap.size:=by omega);have Vt:=zh AF;clear hr hv hg AF;go_enter func27,ntmps27;go_wp2_with fail;refine (kX (by omega)).mono ?_;rintro e w1 ⟨rfl,hw⟩;subst w1;rw [P9.o];obtain ⟨W0,sG⟩:∃ W0,w.alloc (.cells #[.string s,.int .i64 0,.slice none 0 0,.slice none 0 0,.int .i64 0,.string ⟨#[]⟩,.int .i64 0] 59)=W0:=⟨_,rfl⟩;rw [sG] at qN cT;rw [sG];rw [HG.o] at qN cT;(try rw [HG.o]);have L8:g<W0.heap.size:=qN.o.cells.2.2.2.1;obtain ⟨q0,q1,qf,ql,sF⟩:=qN.o.cells;clear sG P9;go_wp2_with fail
  (try go_step3)
  go_wp2_with fail
  go_loopg [] (s.size+1) (fun f wr=>(∃ (p:Nat) (l:List Tk),s.size+1≤f+p∧p≤s.size∧l.length≤p∧Hd (ey g wr g s p l)∧Hd (Below g w wr)∧Hd (aX f (s.data.toList.drop p) p l=R))∨(Hd (Fp wr g)∧Hd (Below g w wr)∧∃ x,R = .error x))
  case atStart=>exact .inl ⟨0,[],Nat.le_refl _,Nat.zero_le _,Nat.le_refl _,qN,cT,HR⟩
  case round=>
    (try rename World=>wr);rcases hrel with ⟨p,l,RS,cq,YN,HS,HB,HT⟩ | ⟨C0,QX,x,rfl⟩
    rotate_left
    · clear q0 q1 qf ql sF qN cT HR L8
      obtain ⟨qp,q4,q5,q6,sF,qf⟩:=C0.o;have AF:=Vt.o;have Y1:=QX.o.size;go_wp2_with fail;go_ret;exact qw.err ⟨_,_,rfl,aj.new _ _ _,QX.o.alloc (by omega) _⟩
    clear q0 q1 qf ql sF;obtain ⟨q0,q1,qf,ql,sF⟩:=HS.o.cells;obtain ⟨q4,-,-⟩:=HS.o.cellF;clear qN cT HR L8;have Y1:=HB.o.size;have AF:=Vt.o;(have Ef:g≤wr.heap.size:=by omega);cases gk with
    | zero=>exact absurd RS (by omega)
    | succ f=>
      (have D5:(p:Int)≤(s.size:Int):=by omega);by_cases hp:p<s.size
      case neg=>
        obtain rfl:p=s.size:=by omega
        obtain rfl:(.ok (bB s.size l ++ [⟨7,s.size,s.size,⟨#[]⟩⟩]):Except Int (List Tk))=R:=by
          have h1:=HT.o;rw [List.drop_eq_nil_of_le (by omega)] at h1;exact h1
        have tB:=fE (s.size:Int) l;clear HT;go_wp2_with fail;refine (j' (base:=g) HS.o (by omega) Ef).mono ?_;rintro e w4 ⟨rfl,rD,dB⟩;have iW:=zh rD;have bu:=zh (HB.o.trans dB);clear rD dB q0 q1 qf ql q4;obtain ⟨q0,q1,qf,ql,-⟩:=iW.o.cells;obtain ⟨q4,-,-⟩:=iW.o.cellF;go_wp2_with fail;refine (dR (base:=g) iW.o (by omega)).mono ?_;rintro e w5 ⟨rfl,fu,dz⟩;have dI:=zh fu;have a8:=zh (bu.o.trans dz);clear fu dz;go_wp2_with fail;go_ret;exact qw.ok_ ⟨_,rfl,dI.o,a8.o⟩
      case pos=>
        obtain ⟨x,hx⟩:∃ x,s[p]=x:=⟨_,rfl⟩;(have fs:(p:Int)<(s.size:Int):=by omega);obtain ⟨t,ht⟩:∃ t,s.data.toList.drop (p+1)=t:=⟨_,rfl⟩
        have d9:s.data.toList.drop p=x :: t:=by
          rw [List.drop_eq_getElem_cons (by omega),Array.getElem_toList,ht];exact congrArg (· :: t) hx
        have HX:=zh hx;have mJ:=zh d9;have Fi:=zh ht;rw [d9] at HT
        have GO:t.length+1+p=s.size:=by
          have h1:=congrArg List.length d9;rw [List.length_drop,eN,List.length_cons] at h1;omega
        have yD:Hd (∀ k,(x :: t).drop k=s.data.toList.drop (p+k)):=zh (fun k=>by rw [← d9,List.drop_drop]);clear ht d9;by_cases oa:x=10
        case pos=>
          subst oa;have fH:Hd (aX f t (p+1) (bB p l)=R):=zh (by have h1:=HT.o;unfold aX at h1;rw [if_pos rfl] at h1;exact h1);clear HT;have tB:=fE (p:Int) l;(have r_:(p:Int)+1≤(s.size:Int):=by omega);go_wp2_with fail;refine (j' (base:=g) HS.o (by omega) Ef).mono ?_;rintro e w4 ⟨rfl,rD,dB⟩;have iW:=zh rD;have bu:=zh (HB.o.trans dB);clear rD dB q0 q1 qf ql q4;obtain ⟨q0,q1,qf,ql,-⟩:=iW.o.cells;have dI:Hd (ey g (w4.setCell ⟨g,1,none⟩ (.int .i64 (p+1))) g s (p+1) (bB p l)):=zh (by have h9:=iW.o.to_ (p:=p+1) (by omega);simpa using h9);have a8:Hd (Below g w (w4.setCell ⟨g,1,none⟩ (.int .i64 (p+1)))):=zh (bu.o.setCell sF _);go_wp2_with fail
          go_roundg f
          case measure=>omega
          case rel=>exact .inl ⟨p+1,_,by omega,by omega,by omega,dI,a8,zh (by rw [Fi.o];exact fH.o)⟩
        case neg=>
        have f10:((x.toNat:Int) == 10)=false:=du oa;by_cases r9:x=32∨x=9∨x=13
        case pos=>
          have fH:Hd (aX f t (p+1) l=R):=zh (by have h1:=HT.o;unfold aX at h1;rw [if_neg oa,if_pos r9] at h1;exact h1);clear HT;(have r_:(p:Int)+1≤(s.size:Int):=by omega);have dI:Hd (ey g (wr.setCell ⟨g,1,none⟩ (.int .i64 (p+1))) g s (p+1) l):=zh (by have h9:=HS.o.to_ (p:=p+1) (by omega);simpa using h9);have a8:Hd (Below g w (wr.setCell ⟨g,1,none⟩ (.int .i64 (p+1)))):=zh (HB.o.setCell sF _);rcases r9 with rfl | rfl | rfl
          all_goals
            go_wp2_with fail
            go_roundg f
            case measure=>omega
            case rel=>exact .inl ⟨p+1,l,by omega,by omega,by omega,dI,a8,zh (by rw [Fi.o];exact fH.o)⟩
        case neg=>
        have f32:((x.toNat:Int) == 32)=false:=du fun e=>r9 (.inl e);have f9:((x.toNat:Int) == 9)=false:=du fun e=>r9 (.inr (.inl e));have f13:((x.toNat:Int) == 13)=false:=du fun e=>r9 (.inr (.inr e));have KU:=zh r9;have K1:=zh oa;clear oa r9;go_wp2_with fail;refine (eU (t:=⟨#[47,47]⟩) HS.o cq (by omega) (by decide)).mono ?_;rintro e w2 ⟨rfl,cK⟩;have fh:=zh (HS.o.below cK);have aE:=zh (HB.o.trans (cK.mono Ef));(have JF:g≤w2.heap.size:=by have h9:=cK.size;omega);clear cK q0 q1 qf ql q4;by_cases AG:qv s p ⟨#[47,47]⟩=true
        case pos=>
          (have hc:x=47∧(t.headD 0=47∨t.headD 0=42):=by have h1:=(rQ hp mJ.o (by decide)).1 AG;exact ⟨h1.1,.inl h1.2⟩);have HC:=zh hc;clear hc;have mL:Hd ((match dK (x :: t) with | none=>Except.error (p:Int) | some n=>aX f ((x :: t).drop n) (p+n) (if 0≤Lib.indexByte ((x :: t).take n) 10 then bB p l else l))=R):=zh (by have h1:=HT.o;unfold aX at h1;rw [if_neg K1.o,if_neg KU.o,if_pos HC.o] at h1;exact h1);clear HT
          obtain ⟨n,ia⟩:∃ n,dK (x :: t)=some n:=by
            have h1:=((rQ hp mJ.o (by decide)).1 AG).2;unfold dK;rw [if_neg (by rw [show (x :: t).getD 1 0=t.headD 0 by cases t <;> rfl,h1];decide)];exact ⟨_,rfl⟩
          have xK:Hd (dK (s.data.toList.drop p)=some n):=zh (by rw [mJ.o];exact ia);have fH:Hd (aX f (s.data.toList.drop (p+n)) (p+n) (if 0≤Lib.indexByte ((s.data.toList.drop p).take n) 10 then bB p l else l)=R):=zh (by have h1:=mL.o;rw [ia] at h1;simp only at h1;rw [yD.o] at h1;rw [mJ.o];exact h1);clear mL;have tB:=fE (p:Int) l;obtain ⟨AE,fT⟩:=lF ia ⟨t,by rw [HC.o.1]⟩;simp only [List.length_cons] at fT;have Ib:=zh AG;obtain ⟨l2,kB⟩:∃ l2,(if 0≤Lib.indexByte ((s.data.toList.drop p).take n) 10 then bB p l else l)=l2:=⟨_,rfl⟩;(have OU:l2.length≤l.length+1:=by rw [← kB];split <;> omega);rw [kB] at fH;have AA:=zh kB;clear ia kB;have wQ:=0;clear wQ;rw [AG];clear AG;(have jM:p+2≤s.size:=by obtain ⟨h9,-,-⟩:=(lj cq).1 Ib.o;omega);go_wp2_with fail;refine (tq (base:=g) rfl fh.o (by omega) JF hs (by omega) Ib.o xK.o).mono ?_;rw [AA.o];rintro e w5 ⟨rfl,fu,dz⟩;have dI:=zh fu;have a8:=zh (aE.o.trans dz);clear fu dz;go_wp2_with fail
          go_roundg f
          case measure=>omega
          case rel=>exact .inl ⟨p+n,l2,by omega,by omega,by omega,dI,a8,zh fH.o⟩
        case neg=>
        rw [Bool.eq_false_iff.2 AG];go_wp2_with fail;refine (eU (t:=⟨#[47,42]⟩) fh.o cq (by omega) (by decide)).mono ?_;rintro e w3 ⟨rfl,jG⟩;have p8:=zh (fh.o.below jG);have be:=zh (aE.o.trans (jG.mono JF));(have l5:g≤w3.heap.size:=by have h9:=jG.size;omega);clear jG;by_cases wQ:qv s p ⟨#[47,42]⟩=true
        case pos=>
          clear AG;(have hc:x=47∧(t.headD 0=47∨t.headD 0=42):=by have h1:=(rQ hp mJ.o (by decide)).1 wQ;exact ⟨h1.1,.inr h1.2⟩);have HC:=zh hc;clear hc;have mL:Hd ((match dK (x :: t) with | none=>Except.error (p:Int) | some n=>aX f ((x :: t).drop n) (p+n) (if 0≤Lib.indexByte ((x :: t).take n) 10 then bB p l else l))=R):=zh (by have h1:=HT.o;unfold aX at h1;rw [if_neg K1.o,if_neg KU.o,if_pos HC.o] at h1;exact h1);clear HT;rcases BI:dK (x :: t) with _ | n
          · have h1:=mL.o
            rw [BI] at h1;have h1:Except.error (p:Int)=R:=h1;subst h1;have xK:Hd (dK (s.data.toList.drop p)=none):=zh (by rw [mJ.o];exact BI);have Ib:=zh wQ;rw [wQ];clear wQ BI mL;go_wp2_with fail;refine (Gx (base:=g) p8.o (by omega) l5 hs Ib.o cq xK.o).mono ?_;rintro e w5 ⟨rfl,fu,dz⟩;have dI:=zh fu;have a8:=zh (be.o.trans dz);clear fu dz;obtain ⟨qp,y4,y5,y6,UH,Lp⟩:=dI.o;go_wp2_with fail
            go_roundg f
            case measure=>omega
            case rel=>exact .inr ⟨dI,a8,_,rfl⟩
          have ia:=BI;have xK:Hd (dK (s.data.toList.drop p)=some n):=zh (by rw [mJ.o];exact ia);have fH:Hd (aX f (s.data.toList.drop (p+n)) (p+n) (if 0≤Lib.indexByte ((s.data.toList.drop p).take n) 10 then bB p l else l)=R):=zh (by have h1:=mL.o;rw [ia] at h1;simp only at h1;rw [yD.o] at h1;rw [mJ.o];exact h1);clear mL;have tB:=fE (p:Int) l;obtain ⟨AE,fT⟩:=lF ia ⟨t,by rw [HC.o.1]⟩;simp only [List.length_cons] at fT;have Ib:=zh wQ;obtain ⟨l2,kB⟩:∃ l2,(if 0≤Lib.indexByte ((s.data.toList.drop p).take n) 10 then bB p l else l)=l2:=⟨_,rfl⟩;(have OU:l2.length≤l.length+1:=by rw [← kB];split <;> omega);rw [kB] at fH;have AA:=zh kB;clear ia kB;rw [wQ];clear wQ;(have jM:p+2≤s.size:=by obtain ⟨h9,-,-⟩:=(lj cq).1 Ib.o;omega);go_wp2_with fail;refine (tn (base:=g) rfl p8.o (by omega) l5 hs Ib.o cq xK.o).mono ?_;rw [AA.o];rintro e w5 ⟨rfl,fu,dz⟩;have dI:=zh fu;have a8:=zh (be.o.trans dz);clear fu dz;go_wp2_with fail
          go_roundg f
          case measure=>omega
          case rel=>exact .inl ⟨p+n,l2,by omega,by omega,by omega,dI,a8,zh fH.o⟩
        case neg=>
        have HC:Hd (¬ (x=47∧(t.headD 0=47∨t.headD 0=42))):=zh (fun h=>h.2.elim (fun e=>AG ((rQ hp mJ.o (by decide)).2 ⟨h.1,e⟩)) (fun e=>wQ ((rQ hp mJ.o (by decide)).2 ⟨h.1,e⟩)));rw [Bool.eq_false_iff.2 wQ];clear AG wQ;obtain ⟨n,hn⟩:∃ n,dq (x :: t)=n:=⟨_,rfl⟩;(have Jt:n≤t.length+1:=by have h1:=kZ (l:=x :: t);rw [hn] at h1;simpa using h1);have ud:=vs (x:=x) (t:=t);rw [hn] at ud;have mL:Hd ((if 60<n then Except.error (p:Int) else if 0<n then aX f ((x :: t).drop n) (p+n) (l ++ [⟨if j7 (bs ((x :: t).take n))=true then 4 else 1,p,p+n,bs ((x :: t).take n)⟩]) else if dZ x=true then (match gl (x :: t) with | none=>.error (p:Int) | some n=>aX f ((x :: t).drop n) (p+n) (l ++ [⟨2,p,p+n,bs ((x :: t).take n)⟩])) else if x=34 then (match bP p t (p+1) [] with | .error e=>.error e | .ok (q,tx)=>aX f ((x :: t).drop (q - p)) q (l ++ [⟨3,p,q,bs tx⟩])) else if x=59 then aX f t (p+1) (l ++ [⟨6,p,p+1,⟨#[59]⟩⟩]) else if ce (bs (x :: t))=0 then .error (p:Int) else aX f ((x :: t).drop (ce (bs (x :: t)))) (p+ce (bs (x :: t))) (l ++ [⟨5,p,p+ce (bs (x :: t)),bs ((x :: t).take (ce (bs (x :: t))))⟩]))=R):=zh (by have h1:=HT.o;unfold aX at h1;rw [if_neg K1.o,if_neg KU.o,if_neg HC.o,hn] at h1;exact h1);have HN:Hd (dq (s.data.toList.drop p)=n):=zh (by rw [mJ.o];exact hn);clear HT hn;by_cases Si:60<n
        · have h1:=mL.o
          rw [if_pos Si] at h1;subst h1;clear mL;go_wp2_with fail;refine cO.mono ?_;rintro e w1 ⟨rfl,hw⟩;subst w1;rw [ud.2 (by omega)];go_wp2_with fail;refine (GD (base:=g) rfl p8.o (by omega) l5 (by omega) HN.o (by omega) Si).mono ?_;rintro e w5 ⟨rfl,fu,dz⟩;have dI:=zh fu;have a8:=zh (be.o.trans dz);clear fu dz;obtain ⟨qp,y4,y5,y6,UH,Lp⟩:=dI.o;go_wp2_with fail
          go_roundg f
          case measure=>omega
          case rel=>exact .inr ⟨dI,a8,_,rfl⟩
        (have JM:n≤60:=by omega);have kp:=zh mL.o;rw [if_neg (by omega)] at kp;clear mL;go_wp2_with fail;refine cO.mono ?_;rintro e w1 ⟨rfl,hw⟩;subst w1;by_cases my:d8 x.toNat=true
        case pos=>
          have D7:=ud.1 my;rw [if_pos D7] at kp;rw [my];clear my ud;go_wp2_with fail;refine (tw (base:=g) rfl p8.o (by omega) l5 (by omega) HN.o D7 JM).mono ?_;rintro e w5 ⟨rfl,fu,dz⟩;have dI:=zh fu;have a8:=zh (be.o.trans dz);clear fu dz;go_wp2_with fail
          go_roundg f
          case measure=>omega
          case rel=>exact .inl ⟨p+n,_,by omega,by omega,(by simp;omega),dI,a8,zh (by have h1:=kp.o;rw [yD.o] at h1;rw [mJ.o];exact h1)⟩
        case neg=>
        rw [Bool.eq_false_iff.2 my];rw [if_neg (fun h=>my (ud.2 h))] at kp;clear my ud Jt JM;go_wp2_with fail;refine dW.mono ?_;rintro e w1 ⟨rfl,hw⟩;subst w1;by_cases pe:gd x.toNat=true
        case pos=>
          rw [pe];rw [if_pos (show dZ x=true from pe)] at kp;rcases BI:gl (x :: t) with _ | k
          · have h1:=kp.o
            rw [BI] at h1;have h1:Except.error (p:Int)=R:=h1;subst h1;have xK:Hd (gl (s.data.toList.drop p)=none):=zh (by rw [mJ.o];exact BI);obtain ⟨k,hk⟩:∃ k,((s.data.toList.drop p).takeWhile dZ).length=k:=⟨_,rfl⟩;(have vA:0<k:=by rw [← hk,mJ.o,List.takeWhile_cons,if_pos (show dZ x=true from pe)];simp);have HK:=zh hk;clear BI kp hk;go_wp2_with fail;refine (Bu (base:=g) (q:=p+k) rfl HK.o p8.o (by omega) l5 (by omega) xK.o vA).mono ?_;rintro e w5 ⟨rfl,fu,dz⟩;have dI:=zh fu;have a8:=zh (be.o.trans dz);clear fu dz;obtain ⟨qp,y4,y5,y6,UH,Lp⟩:=dI.o;go_wp2_with fail
            go_roundg f
            case measure=>omega
            case rel=>exact .inr ⟨dI,a8,_,rfl⟩
          have ia:=BI;have xK:Hd (gl (s.data.toList.drop p)=some k):=zh (by rw [mJ.o];exact ia);obtain ⟨AE,fT⟩:=rj ia pe;simp only [List.length_cons] at fT;have fH:Hd (aX f (s.data.toList.drop (p+k)) (p+k) (l ++ [⟨2,p,p+k,bs ((s.data.toList.drop p).take k)⟩])=R):=zh (by have h1:=kp.o;rw [ia] at h1;simp only at h1;rw [yD.o] at h1;rw [mJ.o];exact h1);clear kp ia pe;go_wp2_with fail;refine (pP (base:=g) rfl p8.o (by omega) l5 (by omega) xK.o AE).mono ?_;rintro e w5 ⟨rfl,fu,dz⟩;have dI:=zh fu;have a8:=zh (be.o.trans dz);clear fu dz;go_wp2_with fail
          go_roundg f
          case measure=>omega
          case rel=>exact .inl ⟨p+k,_,by omega,by omega,(by simp;omega),dI,a8,zh (by simpa using fH.o)⟩
        case neg=>
        rw [Bool.eq_false_iff.2 pe];rw [if_neg (show ¬ dZ x=true from pe)] at kp;clear pe;by_cases sc:x=34
        case pos=>
          subst sc;rw [if_pos rfl] at kp;rcases BI:bP p t (p+1) [] with er | ⟨q,tx⟩
          · have h1:=kp.o
            rw [BI] at h1;have h1:Except.error er=R:=h1;subst h1;have xK:Hd (bP p (s.data.toList.drop (p+1)) (p+1) [] = .error er):=zh (by rw [Fi.o];exact BI);clear BI kp;go_wp2_with fail;refine (Gk (base:=g) p8.o (by omega) hs hp l5 xK.o).mono ?_;rintro e w5 ⟨rfl,fu,dz⟩;have dI:=zh fu;have a8:=zh (be.o.trans dz);clear fu dz;obtain ⟨qp,y4,y5,y6,UH,Lp⟩:=dI.o;go_wp2_with fail
            go_roundg f
            case measure=>omega
            case rel=>exact .inr ⟨dI,a8,_,rfl⟩
          have ia:=BI;obtain ⟨AE,fT⟩:=dE _ _ _ ia;have xK:Hd (bP p (s.data.toList.drop (p+1)) (p+1) [] = .ok (q,tx)):=zh (by rw [Fi.o];exact ia);have fH:Hd (aX f (s.data.toList.drop q) q (l ++ [⟨3,p,q,bs tx⟩])=R):=zh (by have h1:=kp.o;rw [ia] at h1;simp only at h1;rw [yD.o,show p+(q - p)=q from by omega] at h1;exact h1);clear kp ia;go_wp2_with fail;refine (td (base:=g) p8.o (by omega) hs hp l5 xK.o).mono ?_;rintro e w5 ⟨rfl,fu,dz⟩;have dI:=zh fu;have a8:=zh (be.o.trans dz);clear fu dz;go_wp2_with fail
          go_roundg f
          case measure=>omega
          case rel=>exact .inl ⟨q,_,by omega,by omega,(by simp;omega),dI,a8,zh fH.o⟩
        case neg=>
        have Sj:((x.toNat:Int) == 34)=false:=du sc;rw [if_neg sc] at kp;by_cases FT:x=59
        case pos=>
          have fH:Hd (aX f (s.data.toList.drop (p+1)) (p+1) (l ++ [⟨6,p,p+1,⟨#[59]⟩⟩])=R):=zh (by have h1:=kp.o;rw [if_pos FT] at h1;rw [Fi.o];exact h1);clear kp;go_wp2_with fail;refine (tm (base:=g) rfl p8.o (by omega) l5 (by omega) hp (by rw [HX.o];exact FT)).mono ?_;rintro e w5 ⟨rfl,fu,dz⟩;have dI:=zh fu;have a8:=zh (be.o.trans dz);clear fu dz;go_wp2_with fail
          go_roundg f
          case measure=>omega
          case rel=>exact .inl ⟨p+1,_,by omega,by omega,(by simp;omega),dI,a8,zh (by simpa using fH.o)⟩
        case neg=>
        rw [if_neg FT] at kp;obtain ⟨k,hk⟩:∃ k,ce (bs (x :: t))=k:=⟨_,rfl⟩;rw [hk] at kp;by_cases vA:k=0
        · subst vA
          have h1:=kp.o;rw [if_pos rfl] at h1;subst h1;have HK:Hd (ce (bs (s.data.toList.drop p))=0):=zh (by rw [mJ.o];exact hk);clear kp hk;go_wp2_with fail;refine (Gp (base:=g) p8.o (by omega) l5 (by omega) hp (by rw [HX.o];exact FT) HK.o).mono ?_;rintro e w5 ⟨rfl,fu,dz⟩;have dI:=zh fu;have a8:=zh (be.o.trans dz);clear fu dz;obtain ⟨qp,y4,y5,y6,UH,Lp⟩:=dI.o;go_wp2_with fail
          go_roundg f
          case measure=>omega
          case rel=>exact .inr ⟨dI,a8,_,rfl⟩
        have OW:k≤t.length+1:=by
          have h1:=qX (s:=bs (x :: t)) (by show 0<(x :: t).toArray.size;simp);rw [hk] at h1;(have h2:(bs (x :: t)).size=t.length+1:=by show (x :: t).toArray.size=_;simp);omega
        have HK:Hd (ce (bs (s.data.toList.drop p))=k):=zh (by rw [mJ.o];exact hk);have fH:Hd (aX f (s.data.toList.drop (p+k)) (p+k) (l ++ [⟨5,p,p+k,bs ((s.data.toList.drop p).take k)⟩])=R):=zh (by have h1:=kp.o;rw [if_neg vA,yD.o] at h1;rw [mJ.o];exact h1);clear kp hk;go_wp2_with fail;refine (tj (base:=g) rfl p8.o (by omega) l5 (by omega) hp (by rw [HX.o];exact FT) HK.o vA).mono ?_;rintro e w5 ⟨rfl,fu,dz⟩;have dI:=zh fu;have a8:=zh (be.o.trans dz);clear fu dz;go_wp2_with fail
        go_roundg f
        case measure=>omega
        case rel=>exact .inl ⟨p+k,_,by omega,by omega,(by simp;omega),dI,a8,zh (by simpa using fH.o)⟩end
set_option maxRecDepth 100000
set_option maxHeartbeats 8000000
section
variable {w w':World} {s:ByteArray}
theorem Dp (hs:s.size≤65536) (hv:gp s s.size 0=false) :
    Calls prog 27 #[.string s] w fun e w'=>∃ g' q,e = .returned (.pointer (some ⟨g',0,none⟩))∧aj w' g' 59 #[.string ⟨#[]⟩,.int .i64 0,.slice none 0 0,.slice none 0 0,.int .i64 2,.string ⟨#[]⟩,.int .i64 q]∧Below w.heap.size w w':=by
  have P9:=zh hv;(have uE:(s.size:Int)≤65536:=by omega);clear hv;go_enter func27,ntmps27;go_wp2_with fail;refine (kX (by omega)).mono ?_;rintro e w1 ⟨rfl,hw⟩;subst w1;rw [P9.o];have vA:aj (w.alloc (.cells #[.string s,.int .i64 0,.slice none 0 0,.slice none 0 0,.int .i64 0,.string ⟨#[]⟩,.int .i64 0] 59)) w.heap.size 59 #[.string s,.int .i64 0,.slice none 0 0,.slice none 0 0,.int .i64 0,.string ⟨#[]⟩,.int .i64 0]:=aj.new _ _ _;have Ih:Below w.heap.size w (w.alloc (.cells #[.string s,.int .i64 0,.slice none 0 0,.slice none 0 0,.int .i64 0,.string ⟨#[]⟩,.int .i64 0] 59)):=(Below.refl _ _).alloc (Nat.le_refl _) _;obtain ⟨W0,sG⟩:∃ W0,w.alloc (.cells #[.string s,.int .i64 0,.slice none 0 0,.slice none 0 0,.int .i64 0,.string ⟨#[]⟩,.int .i64 0] 59)=W0:=⟨_,rfl⟩;rw [sG] at vA Ih;rw [sG];have MU:=zh vA;have cT:=zh Ih;have ql:=vA.lt;have qf:=vA.frozen;have q4:=vA.cell 4;have q5:=vA.cell 5;have q6:=vA.cell 6;simp at q4 q5 q6;clear vA Ih sG;go_wp2_with fail
  (try go_step3)
  go_wp2_with fail
  go_loopg [] 0 (fun _ wr=>Hd (aj wr w.heap.size 59 #[.string s,.int .i64 0,.slice none 0 0,.slice none 0 0,.int .i64 2,.string ⟨#[]⟩,.int .i64 0])∧Hd (Below w.heap.size w wr))
  case atStart=>exact ⟨zh (by simpa using ((MU.o.set_ 4 (.int .i64 2)).set_ 5 (.string ⟨#[]⟩)).set_ 6 (.int .i64 0)),zh (((cT.o.setCell (Nat.le_refl _) _).setCell (Nat.le_refl _) _).setCell (Nat.le_refl _) _)⟩
  case round=>
    obtain ⟨HK,HB⟩:=hrel;(try rename World=>wr);clear ql qf q4 q5 q6;have q4:=HK.o.cell 4;have q5:=HK.o.cell 5;have q6:=HK.o.cell 6;simp at q4 q5 q6;have ql:=HK.o.lt;have qf:=HK.o.frozen;go_wp2_with fail;go_ret;exact ⟨_,_,rfl,aj.new _ _ _,HB.o.alloc (Nat.le_of_lt ql) _⟩
theorem A_ (hs:s.size≤65536) :
    Calls prog 13 #[.string s] w fun e w'=>∃ A n c d0 d2,e = .returned (.tuple #[.slice A n c,.agg #[.int .i64 d0,.string ⟨#[]⟩,.int .i64 d2]])∧Below w.heap.size w w':=by
  have X7:Hd (∀ (w:World),Calls prog 27 #[.string s] w fun e w'=>∃ g' a n c d0 d2,e = .returned (.pointer (some ⟨g',0,none⟩))∧w'.cell? ⟨g',2,none⟩=some (.slice a n c)∧w'.cell? ⟨g',4,none⟩=some (.int .i64 d0)∧w'.cell? ⟨g',5,none⟩=some (.string ⟨#[]⟩)∧w'.cell? ⟨g',6,none⟩=some (.int .i64 d2)∧g'<w'.heap.size∧Below w.heap.size w w'):=zh fun w=>by
    by_cases hv:gp s s.size 0=true
    · refine (Gt (R:=aX (s.size+1) s.data.toList 0 []) rfl hs hv rfl).mono ?_
      intro e w' h;cases hR:aX (s.size+1) s.data.toList 0 [] with
      | ok ts=>
        rw [hR] at h;obtain ⟨q,he,⟨A,c,R,m,d,xs,hm⟩,hb⟩:=h;have h2:=hm.blk.cell 2;have h4:=hm.blk.cell 4;have h5:=hm.blk.cell 5;have h6:=hm.blk.cell 6;simp at h2 h4 h5 h6;exact ⟨_,_,_,_,_,_,he,h2,h4,h5,h6,hm.blk.lt,hb⟩
      | error x=>
        rw [hR] at h;obtain ⟨g',q,he,hk,hb⟩:=h;have h2:=hk.cell 2;have h4:=hk.cell 4;have h5:=hk.cell 5;have h6:=hk.cell 6;simp at h2 h4 h5 h6;exact ⟨_,_,_,_,_,_,he,h2,h4,h5,h6,hk.lt,hb⟩
    · refine (Dp hs (Bool.eq_false_iff.2 hv)).mono ?_
      rintro e w' ⟨g',q,he,hk,hb⟩;have h2:=hk.cell 2;have h4:=hk.cell 4;have h5:=hk.cell 5;have h6:=hk.cell 6;simp at h2 h4 h5 h6;exact ⟨_,_,_,_,_,_,he,h2,h4,h5,h6,hk.lt,hb⟩
  go_enter func13,ntmps13;go_wp2_with fail;refine (X7.o _).mono ?_;rintro e w1 ⟨g',a,n,c,d0,d2,rfl,G0,R2,Y0,YZ,ya,cB⟩;have kb:Hd (Below w.heap.size w w1):=zh (((Below.refl _ _).alloc (Nat.le_refl _) _).trans (cB.mono (by simp)));have jG:Hd (aj w1 w.heap.size 27 #[.int .i64 0,.string ⟨#[]⟩,.int .i64 0]):=zh ((aj.new _ _ _).below cB (by simp));have D9:=jG.o.lt;have Ee:=jG.o.cell 0;have Ed:=jG.o.cell 1;have Ec:=jG.o.cell 2;have iL:=jG.o.frozen;simp at Ee Ed Ec;clear cB;go_wp2_with fail
  go_region
  all_goals
    go_wp2_with fail;refine bodyPost_ret (Bi (((jG.o.set_ 0 _).set_ 1 _).set_ 2 _).drew) rfl ?_;exact ⟨_,_,_,_,_,rfl,(((kb.o.setCell (Nat.le_refl _) _).setCell (Nat.le_refl _) _).setCell (Nat.le_refl _) _).drew⟩
end
set_option maxRecDepth 100000
set_option maxHeartbeats 8000000
theorem Gj {s:ByteArray} {ts:List Tk} {k:Nat} {x:Tk} (h:ee s = .ok ts) (hx:ts[k]? = some x) (h6:x.k≠6) (h7:x.k≠7):∃ P:Nat,x.fr=(P:Int)∧P≤s.size:=by
  obtain ⟨u,v,aP,q1,q2,-⟩:=vf (o7 h).2.2 hx h6 h7;refine ⟨u.length,q2,?_⟩;have:s.size=s.data.toList.length:=rfl;rw [this,q1];simp
def IX:ByteArray:=⟨#[32,47,42,32,114,32,42,47,32]⟩
theorem Bj (s:ByteArray) (P:Nat):(s.extract 0 P ++ IX ++ s.extract P s.size).data.toList=s.data.toList.take P ++ (IY ++ s.data.toList.drop P):=by
  rw [ByteArray.data_append,ByteArray.data_append,Array.toList_append,Array.toList_append];have e:=ma (s:=s) (p:=0) (n:=P);rw [Nat.zero_add] at e;rw [e,FX];simp [bs,IX,IY]
theorem Bl (s:ByteArray) (P:Nat) (h:s.size≤4000):(s.extract 0 P ++ IX ++ s.extract P s.size).size≤140737488355328:=by
  have e1:IX.size=9:=rfl;rw [ByteArray.size_append,ByteArray.size_append,ByteArray.size_extract,ByteArray.size_extract,e1];omega
theorem LG {K:Int} {n:Nat} (hn:0<n):∃ j:Nat,j<n∧((K.tmod n<0∧-(K.tmod n)=(j:Int))∨(¬ K.tmod n<0∧K.tmod n=(j:Int))):=by
  have h1:(K.tmod n).natAbs<n:=by
    rw [Int.natAbs_tmod]
    simpa using Nat.mod_lt _ hn
  refine ⟨(K.tmod n).natAbs,h1,?_⟩;omega
section
variable {w:World}
theorem y9 {s:ByteArray} {K:Int} (hK:-9223372036854775808≤K∧K≤9223372036854775807) (hs:s.size≤9223372036854775807) (hT:Lib.Utf8Tabs 0 1 w) (h3:3≤w.heap.size) {mm:Int} (n_:w.cell? ⟨2,0,none⟩=some (.int .i64 mm)) :
    Calls prog 8 #[.string s,.int .i64 K] w fun e w'=>e = .returned (.bool true)∧Below w.heap.size w w':=by
  obtain ⟨r,hr⟩:=EF s;have HT:=zh hT;have Ay:=zh n_;have HR:=zh hr;have HA:Hd (∀ W,Below w.heap.size w W→Calls prog 9 #[] W fun e w'=>e = .returned (.bool true)∧Below W.heap.size W w'):=zh fun W hB=>Cw (Utf8Tabs_below hT hB) (by have:=hB.size;omega) ((hB.cell (p:=⟨2,0,none⟩) (by show 2<_;omega)).trans n_);clear hT n_ hr;by_cases JH:4000<s.size
  · have R5:decide ((4000:Int)<(s.size:Int))=true:=by simp;omega
    (have U4:decide (4000<s.size)=true:=by simp;omega);go_enter func8,ntmps8;go_wp2_with fail;refine (HA.o w (Below.refl _ _)).mono ?_;rintro e w1 ⟨rfl,cB⟩;go_wp2_with fail;go_ret;exact ⟨rfl,cB⟩
  · have R5:decide ((4000:Int)<(s.size:Int))=false:=by simp;omega
    (have U4:decide (4000<s.size)=false:=by simp;omega);(have R3:¬ (4000:Int)<(s.size:Int):=by omega);(have je:s.size≤4000:=by omega);go_enter func8,ntmps8;go_wp2_with fail;refine (vJ (by omega) HT.o h3 Ay.o HR.o).mono ?_;rintro e w1 ⟨cB,ua⟩;have a7:=zh cB;have et:=cB.size;clear cB;cases r with
    | error cp=>
      obtain ⟨c,p⟩:=cp;obtain rfl:=ua;have hc:=EG HR.o;(have K9:decide (c=0)=false:=by simpa using hc);(have hcb:(c == 0)=false:=by simpa using hc);unfold dD;clear R5 U4 R3 JH;go_wp2_with fail;obtain ⟨W1,ye⟩:∃ W1,(w1.alloc (.cells #[.int .i64 0,.int .i64 0,.int .i64 0,.string ⟨#[]⟩,.slice none 0 0] 25)).alloc (.cells #[.int .i64 c,.string ⟨#[]⟩,.int .i64 p] 27)=W1:=⟨_,rfl⟩;(have Sg:Below w.heap.size w W1:=by rw [← ye];exact (a7.o.alloc (by omega) _).alloc (by simp;omega) _);(have Sc:aj W1 (w1.heap.size+1) 27 #[.int .i64 c,.string ⟨#[]⟩,.int .i64 p]:=by rw [← ye];exact aj.new' (by simp));rw [ye];have AP:=zh Sg;have T_:=zh Sc;clear ye Sg Sc a7;refine (A_ (by omega)).mono ?_;rintro e w4 ⟨A4,n4,c4,d0,d2,rfl,dB⟩;have bu:=zh dB;have JL:=T_.o.below dB T_.o.lt;have g0:=JL.cell 0;simp at g0;have WN:=JL.lt;clear JL dB;go_wp2_with fail;have hB:=(AP.o.trans (bu.o.mono AP.o.size)).alloc (by have h1:=AP.o.size;have h2:=bu.o.size;omega) (.cells #[.int .i64 d0,.string ⟨#[]⟩,.int .i64 d2] 27);refine (HA.o _ hB).mono ?_;rintro e w5 ⟨rfl,dz⟩;have a8:=zh dz;clear dz;go_wp2_with fail;go_ret;exact ⟨rfl,hB.trans (a8.o.mono (by have h1:=AP.o.size;have h2:=bu.o.size;simp;omega))⟩
    | ok n=>
      obtain ⟨A',c',rfl,ae⟩:=ua;obtain ⟨ts,-,LU,-,-⟩:=vh (x:=fun ts=>mE ts (gr ts ts.length)) HR.o;have eN:0<ts.length:=(jK LU).2.wt.2.2.1;(have GO:ts.length≤100000:=by have h1:=(jK LU).2.wt.2.2.2;omega);have TZ:=zh LU;have g_:=zh ae;obtain ⟨nk,nf,nt,Qm,M_⟩:=n;simp only [No.k,No.fr,No.to,No.tx,No.ks] at g_ ⊢;clear LU ae JH R5 U4 R3;go_wp2_with fail;obtain ⟨W1,ye⟩:∃ W1,(w1.alloc (.cells #[.int .i64 nk,.int .i64 nf,.int .i64 nt,.string Qm,.slice A' M_.length c'] 25)).alloc (.cells #[.int .i64 0,.string ⟨#[]⟩,.int .i64 0] 27)=W1:=⟨_,rfl⟩;(have Sg:Below w.heap.size w W1:=by rw [← ye];exact (a7.o.alloc (by omega) _).alloc (by simp;omega) _);(have Zb:aj W1 w1.heap.size 25 #[.int .i64 nk,.int .i64 nf,.int .i64 nt,.string Qm,.slice A' M_.length c']:=by rw [← ye];exact (aj.new _ _ _).alloc _);(have Sc:aj W1 (w1.heap.size+1) 27 #[.int .i64 0,.string ⟨#[]⟩,.int .i64 0]:=by rw [← ye];exact aj.new' (by simp));(have Y9:aQ W1 (fun b=>b<W1.heap.size) (.slice A' M_.length c') M_:=by rw [← ye];exact g_.o.keep (fun b hb=>(Below.heap_alloc _ _ _ (by have:=hb.2;simp;omega)).trans (Below.heap_alloc _ _ _ hb.2)) fun b hb=>by have:=hb.2;simp;omega);(have hzA:W1.heap.size=w1.heap.size+2:=by rw [← ye];simp);rw [ye];have AP:=zh Sg;have ZY:=zh Zb;have T_:=zh Sc;have HRA:=zh Y9;clear ye Sg Zb Sc Y9 g_ a7;refine (wX TZ.o).mono ?_;rintro e w4 ⟨dB,A3,c3,rfl,aD⟩;have iV:=dB.size;have bu:=zh dB;have Qa:=zh aD;have QV:=zh (T_.o.below dB T_.o.lt);have g0:=QV.o.cell 0;simp at g0;(have C7:((ts.length:Int) == 0)=false:=by rw [beq_eq_false_iff_ne];omega);(have kx:¬ (ts.length:Int)=0:=by omega);clear dB aD;have sE:=QV.o.lt;obtain ⟨j,hj,hsg⟩:=LG (K:=K) eN;(have hjn:(j:Int)<(ts.length:Int):=by omega);have fs:j<ts.length:=hj;rcases hsg with ⟨Qt,WA⟩ | ⟨Qt,WA⟩
      all_goals
        obtain ⟨Rm,Y8⟩:∃ Rm,K.tmod ts.length=Rm:=⟨_,rfl⟩;rw [Y8] at Qt WA;(have hsw:IntKind.i64.wrap (-Rm) = -Rm:=by rw [IntKind.wrap_i64];omega);have hsd:decide (Rm<0)=decide (Rm<0):=rfl;obtain ⟨tg,c0,hA3,-⟩:=Qa.o.form (by omega);cases hA3
        go_upto_region 10 with fail
        refine kq ?_;rintro W G1;have ZR:Hd (W.ownsRow W1.heap.size 36 4 (.slice (some ⟨tg,0,none⟩) ts.length c3) ts.length (eg ts)):=zh (own_below (Qa.o.alloc _) G1);have gM:Hd (Below W1.heap.size W1 W):=zh ((bu.o.alloc (by omega) _).trans (G1.mono (by simp;omega)));have Qr:=AP.o.size;have Wv:=gM.o.size;clear G1 g0 sE Qa QV bu;obtain ⟨t0,t1,t2,t3⟩:=re ZR.o fs;have hx:ts[j]? = some ts[j]:=List.getElem?_eq_getElem fs;obtain ⟨x,Rb⟩:∃ x,ts[j]=x:=⟨_,rfl⟩;rw [Rb] at t0 t1 hx;have HX:=zh hx;obtain ⟨xk,Wu⟩:∃ xk,x.k=xk:=⟨_,rfl⟩;rw [Wu] at t0;have Vn:=zh Wu;clear hx Rb t2 t3 Wu Y8 WA Qt hsw hsd;by_cases h6:xk=6
        · subst h6
          go_wp2_with fail;refine (HA.o _ (AP.o.trans (gM.o.mono Qr))).mono ?_;rintro e w6 ⟨rfl,uF⟩;go_wp2_with fail;go_ret;exact ⟨rfl,(AP.o.trans (gM.o.mono Qr)).trans (uF.mono (by omega))⟩
        (have h6b:(xk == 6)=false:=by rw [beq_eq_false_iff_ne];exact h6);by_cases h7:xk=7
        · subst h7
          go_wp2_with fail;refine (HA.o _ (AP.o.trans (gM.o.mono Qr))).mono ?_;rintro e w6 ⟨rfl,uF⟩;go_wp2_with fail;go_ret;exact ⟨rfl,(AP.o.trans (gM.o.mono Qr)).trans (uF.mono (by omega))⟩
        (have h7b:(xk == 7)=false:=by rw [beq_eq_false_iff_ne];exact h7);obtain ⟨P,hP,K_⟩:=Gj TZ.o HX.o (by rw [Vn.o];exact h6) (by rw [Vn.o];exact h7);obtain ⟨n',WK,hE⟩:=Dy je HR.o TZ.o HX.o (by rw [Vn.o];exact h6) (by rw [Vn.o];exact h7) hP (Bj s P);rw [hP] at t1;have HPF:=zh hP;have HN':=zh WK;have HE:=zh hE;(have La:(P:Int)≤(s.size:Int):=by omega);(have hPi2:(P:Int)≤140737488355328:=by omega);(have uE:(s.size:Int)≤4000:=by omega);(have JD:¬ 9223372036854775807<P+9:=by omega);have G0:¬ 9223372036854775807<P+9+(s.size - P):=by omega
        have Uk:Hd (∀ V,Below W1.heap.size W1 V→Calls prog 16 #[.string (s.extract 0 P ++ IX ++ s.extract P s.size)] V (F2 V (.ok n'))):=zh fun V hV=>by
          have Xi:=AP.o.trans (hV.mono Qr);have h8:=Utf8Tabs_below HT.o Xi;(have h9:3≤V.heap.size:=by have:=Xi.size;omega);have h7:=(Xi.cell (p:=⟨2,0,none⟩) (by show 2<_;omega)).trans Ay.o;exact vJ (Bl s P je) h8 h9 h7 WK
        clear WK hE hP
        go_upto_region 12 with fail
        go_cut [9,10] from 57 to 76 (fun s9 s10 V=>∃ (b9 NE:Nat) (A:Option Addr) (c:Nat),s9 = .pointer (some ⟨b9,0,none⟩)∧s10 = .pointer (some ⟨NE,0,none⟩)∧Hd (Below W1.heap.size W1 V)∧Hd (aj V b9 25 #[.int .i64 n'.k,.int .i64 n'.fr,.int .i64 n'.to,.string n'.tx,.slice A n'.ks.length c])∧Hd (aj V NE 27 #[.int .i64 0,.string ⟨#[]⟩,.int .i64 0])∧Hd (aQ V (fun b=>b<V.heap.size) (.slice A n'.ks.length c) n'.ks))
        case first=>
          refine kq ?_;rintro W5 dz;have TY:=zh (own_below ZR.o dz);have a8:Hd (Below W1.heap.size W1 W5):=zh (gM.o.trans (dz.mono Wv));have u1:=(re TY.o fs).2.1;(have Rb:ts[j]=x:=by have:=HX.o;rw [List.getElem?_eq_getElem fs] at this;exact Option.some.inj this);rw [Rb,HPF.o] at u1;have htg:=(TY.o.lt tg rfl).2;clear dz t0 t1 Rb;refine wp_region_held_drew (S:=(fun w'=>w'.cell? ⟨tg,j * 4+1,none⟩=some (.int .i64 P))) (by kernel_rfl) (by exact u1) (fun ac=>?_);refine bw ?_ ac;clear ac;rintro W6 hb ac;refine aK 16 (by kernel_rfl) (fun aF=>?_);have aR:Hd (Below W1.heap.size W1 W6):=zh (a8.o.trans (hb.mono (by have:=a8.o.size;omega)));have iK:=hb.size;clear hb u1;(iterate 16 (refine zt aF ?_;try simp only [Act.put,cr,cj,ch,UC,UB,VB]));refine rb ?_;clear aF;refine wpAnyH_ready (rs:=[16,20,21]) (by kernel_rfl) (by simp) ?_;refine AllReadyH.cons rfl (fun K hK=>?_) ?_
          · skip
            (try simp only [cr,cj,ch]);go_simp
            go_at_call 16
            refine (Uk.o _ aR.o).mono ?_;rintro e w7 ⟨ft,A7,c7,rfl,lH⟩;have p9:=zh lH;have MZ:=zh ft;have fz:=ft.size;(try simp at fz);have bf:Hd (Below W1.heap.size W1 w7):=zh (aR.o.trans (ft.mono (by have:=aR.o.size;omega)));refine hK.out _ _ ((ft.cell (p:=⟨tg,j * 4+1,none⟩) (by show tg<_;(try simp);omega)).trans ac) (fun ac=>?_);clear hK K ft lH;try simp only [Act.put,cr,cj,ch,UC,UB,VB]
            (refine wpAnyH_take (i:=17) (v:=?_) rfl (by kernel_rfl) (by kernel_rfl) (by kernel_rfl) (fun _ _ _ h=>h) (Or.inl ⟨by rfl,?_⟩) (by assumption) ?_;rotate_left;(intro W aH;(try dsimp only [ze] at aH);(try simp only [cr,cj,ch]);go_simp;first | done | rfl);try simp only [Act.put,cr,cj,ch,UC,UB,VB])
            (refine wpAnyH_take (i:=18) (v:=?_) rfl (by kernel_rfl) (by kernel_rfl) (by kernel_rfl) (fun _ _ _ h=>h) (Or.inl ⟨by rfl,?_⟩) (by assumption) ?_;rotate_left;(intro W aH;(try dsimp only [ze] at aH);(try simp only [cr,cj,ch]);go_simp;first | done | rfl);try simp only [Act.put,cr,cj,ch,UC,UB,VB])
            (refine wpAnyH_take (i:=19) (v:=?_) rfl (by kernel_rfl) (by kernel_rfl) (by kernel_rfl) (fun _ _ _ h=>h) (Or.inl ⟨by rfl,?_⟩) (by assumption) ?_;rotate_left;(intro W aH;(try dsimp only [ze] at aH);(try simp only [cr,cj,ch]);go_simp;first | done | rfl);try simp only [Act.put,cr,cj,ch,UC,UB,VB])
            refine wpAnyH_ready (rs:=[20,21]) (by kernel_rfl) (by simp) ?_;refine AllReadyH.cons rfl (fun K hK=>?_) ?_
            · skip
              (try simp only [cr,cj,ch]);go_simp;obtain ⟨V2,mZ⟩:∃ V2,V2=w7.alloc (.cells #[.int .i64 0,.int .i64 0,.int .i64 0,.string ⟨#[]⟩,.slice none 0 0] 25):=⟨_,rfl⟩;have Ff:Hd (aj V2 w7.heap.size 25 #[.int .i64 0,.int .i64 0,.int .i64 0,.string ⟨#[]⟩,.slice none 0 0]):=zh (by rw [mZ];exact aj.new _ _ _);have eS:Hd (Below W1.heap.size W1 V2):=zh (by rw [mZ];exact bf.o.alloc (by have:=bf.o.size;omega) _);(have OE:V2.heap.size≤w7.heap.size+1:=by rw [mZ];simp);have OH:w7.heap.size+1≤V2.heap.size:=by rw [mZ];simp
              skip
              refine hK.out _ _ (by rw [World.cell?_alloc_past _ _ _ (by show tg<_;omega)];exact ac) (fun ac=>?_);clear hK K;(try simp only [Act.put,cr,cj,ch,UC,UB,VB]);rw [← mZ];rw [← mZ] at ac;have TW:=zh mZ;clear mZ;refine zq 21 (fun K hK=>?_);(try simp only [cr,cj,ch]);go_simp;obtain ⟨V3,mY⟩:∃ V3,V3=V2.alloc (.cells #[.int .i64 0,.string ⟨#[]⟩,.int .i64 0] 27):=⟨_,rfl⟩;have oX:Hd (aj V3 V2.heap.size 27 #[.int .i64 0,.string ⟨#[]⟩,.int .i64 0]):=zh (by rw [mY];exact aj.new _ _ _);have fI:Hd (Below W1.heap.size W1 V3):=zh (by rw [mY];exact eS.o.alloc (by have:=eS.o.size;omega) _);(have OD:V3.heap.size≤V2.heap.size+1:=by rw [mY];simp);(have OG:V2.heap.size+1≤V3.heap.size:=by rw [mY];simp);have wD:Hd (aj V3 w7.heap.size 25 #[.int .i64 0,.int .i64 0,.int .i64 0,.string ⟨#[]⟩,.slice none 0 0]):=zh (by rw [mY];exact Ff.o.alloc _)
              skip
              refine hK.out _ _ (by rw [World.cell?_alloc_past _ _ _ (by show tg<_;omega)];exact ac) (fun ac=>?_);clear hK K;(try simp only [Act.put,cr,cj,ch,UC,UB,VB]);rw [← mY];rw [← mY] at ac;have P':=zh mY;clear mY;have z9:=wD.o;have oe:=oX.o;obtain ⟨y0,y1,y2,y3,y4,yf,yl⟩:=z9.cells5;have x0:=oe.cell 0;have x1:=oe.cell 1;have x2:=oe.cell 2;simp at x0 x1 x2;have xf:=oe.frozen;have xl:=oe.lt;(have gQ:w7.heap.size≠V2.heap.size:=by omega);have sy:V2.heap.size≠w7.heap.size:=by omega
              have fM:∀ (V:World) (k:Nat) (v:Value) (b:Nat),b≠tg→V.cell? ⟨tg,j * 4+1,none⟩=some (.int .i64 P)→(V.setCell ⟨b,k,none⟩ v).cell? ⟨tg,j * 4+1,none⟩=some (.int .i64 P):=fun V k v b hb hv=>by
                exact (World.cell?_setCell_far V ⟨b,k,none⟩ ⟨tg,j * 4+1,none⟩ v hb).trans hv
              refine zq 22 (fun K hK=>?_);(try simp only [cr,cj,ch]);go_simp;refine hK.out _ _ (fM _ 4 _ _ (by omega) (fM _ 3 _ _ (by omega) (fM _ 2 _ _ (by omega) (fM _ 1 _ _ (by omega) (fM _ 0 _ _ (by omega) ac))))) (fun ac=>?_);clear hK K;(try simp only [Act.put,cr,cj,ch,UC,UB,VB]);refine zq 23 (fun K hK=>?_);(try simp only [cr,cj,ch]);go_simp;refine hK.out _ _ (fM _ 2 _ _ (by omega) (fM _ 1 _ _ (by omega) (fM _ 0 _ _ (by omega) ac))) (fun ac=>?_);clear hK K;(try simp only [Act.put,cr,cj,ch,UC,UB,VB]);refine wpAnyH_done (by kernel_rfl) ?_ _;clear ac;go_wp2_with fail
              go_meet
              refine ⟨w7.heap.size,V2.heap.size,A7,c7,rfl,rfl,zh ((((((((fI.o.setCell (by have:=aR.o.size;have:=bf.o.size;have:=eS.o.size;have:=fI.o.size;show _≤_;(try simp only [World.heap_size_setCell]);omega) _).setCell (by have:=aR.o.size;have:=bf.o.size;have:=eS.o.size;have:=fI.o.size;show _≤_;(try simp only [World.heap_size_setCell]);omega) _).setCell (by have:=aR.o.size;have:=bf.o.size;have:=eS.o.size;have:=fI.o.size;show _≤_;(try simp only [World.heap_size_setCell]);omega) _).setCell (by have:=aR.o.size;have:=bf.o.size;have:=eS.o.size;have:=fI.o.size;show _≤_;(try simp only [World.heap_size_setCell]);omega) _).setCell (by have:=aR.o.size;have:=bf.o.size;have:=eS.o.size;have:=fI.o.size;show _≤_;(try simp only [World.heap_size_setCell]);omega) _).setCell (by have:=aR.o.size;have:=bf.o.size;have:=eS.o.size;have:=fI.o.size;show _≤_;(try simp only [World.heap_size_setCell]);omega) _).setCell (by have:=aR.o.size;have:=bf.o.size;have:=eS.o.size;have:=fI.o.size;show _≤_;(try simp only [World.heap_size_setCell]);omega) _).setCell (by have:=aR.o.size;have:=bf.o.size;have:=eS.o.size;have:=fI.o.size;show _≤_;(try simp only [World.heap_size_setCell]);omega) _),zh ((((wD.o.p5).far1 gQ _).far1 gQ _).far1 gQ _),zh (by simpa using ((((oX.o.far5 sy _ _ _ _ _).set_ 0 _).set_ 1 _).set_ 2 _)),zh (p9.o.keep ?_ ?_)⟩
              · intro b hb
                (have h1:b≠w7.heap.size:=by have:=hb.1;have:=hb.2;omega);(have h2:b≠V2.heap.size:=by have:=hb.1;have:=hb.2;omega);(iterate 3 refine (Below.heap_setCell _ _ _ _ h2).trans ?_);(iterate 5 refine (Below.heap_setCell _ _ _ _ h1).trans ?_);rw [P'.o,TW.o];exact (Below.heap_alloc _ _ _ (by have:=hb.2;simp;omega)).trans (Below.heap_alloc _ _ _ hb.2)
              · intro b hb
                have:=hb.2;simp;omega
            refine AllReadyH.cons rfl (fun K hK=>?_) AllReadyH.nil;(try simp only [cr,cj,ch]);go_simp;obtain ⟨V2,mZ⟩:∃ V2,V2=w7.alloc (.cells #[.int .i64 0,.string ⟨#[]⟩,.int .i64 0] 27):=⟨_,rfl⟩;have wE:Hd (aj V2 w7.heap.size 27 #[.int .i64 0,.string ⟨#[]⟩,.int .i64 0]):=zh (by rw [mZ];exact aj.new _ _ _);have eS:Hd (Below W1.heap.size W1 V2):=zh (by rw [mZ];exact bf.o.alloc (by have:=bf.o.size;omega) _);(have OE:V2.heap.size≤w7.heap.size+1:=by rw [mZ];simp);have OH:w7.heap.size+1≤V2.heap.size:=by rw [mZ];simp
            skip
            refine hK.out _ _ (by rw [World.cell?_alloc_past _ _ _ (by show tg<_;omega)];exact ac) (fun ac=>?_);clear hK K;(try simp only [Act.put,cr,cj,ch,UC,UB,VB]);rw [← mZ];rw [← mZ] at ac;have TW:=zh mZ;clear mZ;refine zq 20 (fun K hK=>?_);(try simp only [cr,cj,ch]);go_simp;obtain ⟨V3,mY⟩:∃ V3,V3=V2.alloc (.cells #[.int .i64 0,.int .i64 0,.int .i64 0,.string ⟨#[]⟩,.slice none 0 0] 25):=⟨_,rfl⟩;have wD:Hd (aj V3 V2.heap.size 25 #[.int .i64 0,.int .i64 0,.int .i64 0,.string ⟨#[]⟩,.slice none 0 0]):=zh (by rw [mY];exact aj.new _ _ _);have fI:Hd (Below W1.heap.size W1 V3):=zh (by rw [mY];exact eS.o.alloc (by have:=eS.o.size;omega) _);(have OD:V3.heap.size≤V2.heap.size+1:=by rw [mY];simp);(have OG:V2.heap.size+1≤V3.heap.size:=by rw [mY];simp);have oX:Hd (aj V3 w7.heap.size 27 #[.int .i64 0,.string ⟨#[]⟩,.int .i64 0]):=zh (by rw [mY];exact wE.o.alloc _)
            skip
            refine hK.out _ _ (by rw [World.cell?_alloc_past _ _ _ (by show tg<_;omega)];exact ac) (fun ac=>?_);clear hK K;(try simp only [Act.put,cr,cj,ch,UC,UB,VB]);rw [← mY];rw [← mY] at ac;have P':=zh mY;clear mY;have z9:=wD.o;have oe:=oX.o;obtain ⟨y0,y1,y2,y3,y4,yf,yl⟩:=z9.cells5;have x0:=oe.cell 0;have x1:=oe.cell 1;have x2:=oe.cell 2;simp at x0 x1 x2;have xf:=oe.frozen;have xl:=oe.lt;(have gQ:V2.heap.size≠w7.heap.size:=by omega);have sy:w7.heap.size≠V2.heap.size:=by omega
            have fM:∀ (V:World) (k:Nat) (v:Value) (b:Nat),b≠tg→V.cell? ⟨tg,j * 4+1,none⟩=some (.int .i64 P)→(V.setCell ⟨b,k,none⟩ v).cell? ⟨tg,j * 4+1,none⟩=some (.int .i64 P):=fun V k v b hb hv=>by
              exact (World.cell?_setCell_far V ⟨b,k,none⟩ ⟨tg,j * 4+1,none⟩ v hb).trans hv
            refine zq 22 (fun K hK=>?_);(try simp only [cr,cj,ch]);go_simp;refine hK.out _ _ (fM _ 4 _ _ (by omega) (fM _ 3 _ _ (by omega) (fM _ 2 _ _ (by omega) (fM _ 1 _ _ (by omega) (fM _ 0 _ _ (by omega) ac))))) (fun ac=>?_);clear hK K;(try simp only [Act.put,cr,cj,ch,UC,UB,VB]);refine zq 23 (fun K hK=>?_);(try simp only [cr,cj,ch]);go_simp;refine hK.out _ _ (fM _ 2 _ _ (by omega) (fM _ 1 _ _ (by omega) (fM _ 0 _ _ (by omega) ac))) (fun ac=>?_);clear hK K;(try simp only [Act.put,cr,cj,ch,UC,UB,VB]);refine wpAnyH_done (by kernel_rfl) ?_ _;clear ac;go_wp2_with fail
            go_meet
            refine ⟨V2.heap.size,w7.heap.size,A7,c7,rfl,rfl,zh ((((((((fI.o.setCell (by have:=aR.o.size;have:=bf.o.size;have:=eS.o.size;have:=fI.o.size;show _≤_;(try simp only [World.heap_size_setCell]);omega) _).setCell (by have:=aR.o.size;have:=bf.o.size;have:=eS.o.size;have:=fI.o.size;show _≤_;(try simp only [World.heap_size_setCell]);omega) _).setCell (by have:=aR.o.size;have:=bf.o.size;have:=eS.o.size;have:=fI.o.size;show _≤_;(try simp only [World.heap_size_setCell]);omega) _).setCell (by have:=aR.o.size;have:=bf.o.size;have:=eS.o.size;have:=fI.o.size;show _≤_;(try simp only [World.heap_size_setCell]);omega) _).setCell (by have:=aR.o.size;have:=bf.o.size;have:=eS.o.size;have:=fI.o.size;show _≤_;(try simp only [World.heap_size_setCell]);omega) _).setCell (by have:=aR.o.size;have:=bf.o.size;have:=eS.o.size;have:=fI.o.size;show _≤_;(try simp only [World.heap_size_setCell]);omega) _).setCell (by have:=aR.o.size;have:=bf.o.size;have:=eS.o.size;have:=fI.o.size;show _≤_;(try simp only [World.heap_size_setCell]);omega) _).setCell (by have:=aR.o.size;have:=bf.o.size;have:=eS.o.size;have:=fI.o.size;show _≤_;(try simp only [World.heap_size_setCell]);omega) _),zh ((((wD.o.p5).far1 gQ _).far1 gQ _).far1 gQ _),zh (by simpa using ((((oX.o.far5 sy _ _ _ _ _).set_ 0 _).set_ 1 _).set_ 2 _)),zh (p9.o.keep ?_ ?_)⟩
            · intro b hb
              (have h1:b≠V2.heap.size:=by have:=hb.1;have:=hb.2;omega);(have h2:b≠w7.heap.size:=by have:=hb.1;have:=hb.2;omega);(iterate 3 refine (Below.heap_setCell _ _ _ _ h2).trans ?_);(iterate 5 refine (Below.heap_setCell _ _ _ _ h1).trans ?_);rw [P'.o,TW.o];exact (Below.heap_alloc _ _ _ (by have:=hb.2;simp;omega)).trans (Below.heap_alloc _ _ _ hb.2)
            · intro b hb
              have:=hb.2;simp;omega
          refine AllReadyH.cons rfl (fun K hK=>?_) ?_
          · skip
            (try simp only [cr,cj,ch]);go_simp;obtain ⟨V1,zI⟩:∃ V1,V1=W6.alloc (.cells #[.int .i64 0,.int .i64 0,.int .i64 0,.string ⟨#[]⟩,.slice none 0 0] 25):=⟨_,rfl⟩;have P6:Hd (aj V1 W6.heap.size 25 #[.int .i64 0,.int .i64 0,.int .i64 0,.string ⟨#[]⟩,.slice none 0 0]):=zh (by rw [zI];exact aj.new _ _ _);have fg:Hd (Below W1.heap.size W1 V1):=zh (by rw [zI];exact aR.o.alloc (by have:=aR.o.size;omega) _);(have Wq:V1.heap.size≤W6.heap.size+1:=by rw [zI];simp);(have Ws:W6.heap.size+1≤V1.heap.size:=by rw [zI];simp);refine hK.out _ _ (by rw [World.cell?_alloc_past _ _ _ (by show tg<_;omega)];exact ac) (fun ac=>?_);clear hK K;(try simp only [Act.put,cr,cj,ch,UC,UB,VB]);rw [← zI];rw [← zI] at ac;have HV1:=zh zI;clear zI;refine wpAnyH_ready (rs:=[16,21]) (by kernel_rfl) (by simp) ?_;refine AllReadyH.cons rfl (fun K hK=>?_) ?_
            · skip
              (try simp only [cr,cj,ch]);go_simp
              go_at_call 16
              refine (Uk.o _ fg.o).mono ?_;rintro e w7 ⟨ft,A7,c7,rfl,lH⟩;have p9:=zh lH;have MZ:=zh ft;have fz:=ft.size;(try simp at fz);have bf:Hd (Below W1.heap.size W1 w7):=zh (fg.o.trans (ft.mono (by have:=fg.o.size;omega)));have P7:Hd (aj w7 W6.heap.size 25 #[.int .i64 0,.int .i64 0,.int .i64 0,.string ⟨#[]⟩,.slice none 0 0]):=zh (P6.o.below ft P6.o.lt);refine hK.out _ _ ((ft.cell (p:=⟨tg,j * 4+1,none⟩) (by show tg<_;(try simp);omega)).trans ac) (fun ac=>?_);clear hK K ft lH;try simp only [Act.put,cr,cj,ch,UC,UB,VB]
              (refine wpAnyH_take (i:=17) (v:=?_) rfl (by kernel_rfl) (by kernel_rfl) (by kernel_rfl) (fun _ _ _ h=>h) (Or.inl ⟨by rfl,?_⟩) (by assumption) ?_;rotate_left;(intro W aH;(try dsimp only [ze] at aH);(try simp only [cr,cj,ch]);go_simp;first | done | rfl);try simp only [Act.put,cr,cj,ch,UC,UB,VB])
              (refine wpAnyH_take (i:=18) (v:=?_) rfl (by kernel_rfl) (by kernel_rfl) (by kernel_rfl) (fun _ _ _ h=>h) (Or.inl ⟨by rfl,?_⟩) (by assumption) ?_;rotate_left;(intro W aH;(try dsimp only [ze] at aH);(try simp only [cr,cj,ch]);go_simp;first | done | rfl);try simp only [Act.put,cr,cj,ch,UC,UB,VB])
              (refine wpAnyH_take (i:=19) (v:=?_) rfl (by kernel_rfl) (by kernel_rfl) (by kernel_rfl) (fun _ _ _ h=>h) (Or.inl ⟨by rfl,?_⟩) (by assumption) ?_;rotate_left;(intro W aH;(try dsimp only [ze] at aH);(try simp only [cr,cj,ch]);go_simp;first | done | rfl);try simp only [Act.put,cr,cj,ch,UC,UB,VB])
              refine zq 21 (fun K hK=>?_);(try simp only [cr,cj,ch]);go_simp;obtain ⟨V3,mY⟩:∃ V3,V3=w7.alloc (.cells #[.int .i64 0,.string ⟨#[]⟩,.int .i64 0] 27):=⟨_,rfl⟩;have oX:Hd (aj V3 w7.heap.size 27 #[.int .i64 0,.string ⟨#[]⟩,.int .i64 0]):=zh (by rw [mY];exact aj.new _ _ _);have fI:Hd (Below W1.heap.size W1 V3):=zh (by rw [mY];exact bf.o.alloc (by have:=bf.o.size;omega) _);(have OD:V3.heap.size≤w7.heap.size+1:=by rw [mY];simp);(have OG:w7.heap.size+1≤V3.heap.size:=by rw [mY];simp);have wD:Hd (aj V3 W6.heap.size 25 #[.int .i64 0,.int .i64 0,.int .i64 0,.string ⟨#[]⟩,.slice none 0 0]):=zh (by rw [mY];exact P7.o.alloc _)
              skip
              refine hK.out _ _ (by rw [World.cell?_alloc_past _ _ _ (by show tg<_;omega)];exact ac) (fun ac=>?_);clear hK K;(try simp only [Act.put,cr,cj,ch,UC,UB,VB]);rw [← mY];rw [← mY] at ac;have P':=zh mY;clear mY;have z9:=wD.o;have oe:=oX.o;obtain ⟨y0,y1,y2,y3,y4,yf,yl⟩:=z9.cells5;have x0:=oe.cell 0;have x1:=oe.cell 1;have x2:=oe.cell 2;simp at x0 x1 x2;have xf:=oe.frozen;have xl:=oe.lt;(have gQ:W6.heap.size≠w7.heap.size:=by omega);have sy:w7.heap.size≠W6.heap.size:=by omega
              have fM:∀ (V:World) (k:Nat) (v:Value) (b:Nat),b≠tg→V.cell? ⟨tg,j * 4+1,none⟩=some (.int .i64 P)→(V.setCell ⟨b,k,none⟩ v).cell? ⟨tg,j * 4+1,none⟩=some (.int .i64 P):=fun V k v b hb hv=>by
                exact (World.cell?_setCell_far V ⟨b,k,none⟩ ⟨tg,j * 4+1,none⟩ v hb).trans hv
              refine zq 22 (fun K hK=>?_);(try simp only [cr,cj,ch]);go_simp;refine hK.out _ _ (fM _ 4 _ _ (by omega) (fM _ 3 _ _ (by omega) (fM _ 2 _ _ (by omega) (fM _ 1 _ _ (by omega) (fM _ 0 _ _ (by omega) ac))))) (fun ac=>?_);clear hK K;(try simp only [Act.put,cr,cj,ch,UC,UB,VB]);refine zq 23 (fun K hK=>?_);(try simp only [cr,cj,ch]);go_simp;refine hK.out _ _ (fM _ 2 _ _ (by omega) (fM _ 1 _ _ (by omega) (fM _ 0 _ _ (by omega) ac))) (fun ac=>?_);clear hK K;(try simp only [Act.put,cr,cj,ch,UC,UB,VB]);refine wpAnyH_done (by kernel_rfl) ?_ _;clear ac;go_wp2_with fail
              go_meet
              refine ⟨W6.heap.size,w7.heap.size,A7,c7,rfl,rfl,zh ((((((((fI.o.setCell (by have:=aR.o.size;have:=fg.o.size;have:=bf.o.size;have:=fI.o.size;show _≤_;(try simp only [World.heap_size_setCell]);omega) _).setCell (by have:=aR.o.size;have:=fg.o.size;have:=bf.o.size;have:=fI.o.size;show _≤_;(try simp only [World.heap_size_setCell]);omega) _).setCell (by have:=aR.o.size;have:=fg.o.size;have:=bf.o.size;have:=fI.o.size;show _≤_;(try simp only [World.heap_size_setCell]);omega) _).setCell (by have:=aR.o.size;have:=fg.o.size;have:=bf.o.size;have:=fI.o.size;show _≤_;(try simp only [World.heap_size_setCell]);omega) _).setCell (by have:=aR.o.size;have:=fg.o.size;have:=bf.o.size;have:=fI.o.size;show _≤_;(try simp only [World.heap_size_setCell]);omega) _).setCell (by have:=aR.o.size;have:=fg.o.size;have:=bf.o.size;have:=fI.o.size;show _≤_;(try simp only [World.heap_size_setCell]);omega) _).setCell (by have:=aR.o.size;have:=fg.o.size;have:=bf.o.size;have:=fI.o.size;show _≤_;(try simp only [World.heap_size_setCell]);omega) _).setCell (by have:=aR.o.size;have:=fg.o.size;have:=bf.o.size;have:=fI.o.size;show _≤_;(try simp only [World.heap_size_setCell]);omega) _),zh ((((wD.o.p5).far1 gQ _).far1 gQ _).far1 gQ _),zh (by simpa using ((((oX.o.far5 sy _ _ _ _ _).set_ 0 _).set_ 1 _).set_ 2 _)),zh (p9.o.keep ?_ ?_)⟩
              · intro b hb
                (have h1:b≠W6.heap.size:=by have:=hb.1;have:=hb.2;omega);(have h2:b≠w7.heap.size:=by have:=hb.1;have:=hb.2;omega);(iterate 3 refine (Below.heap_setCell _ _ _ _ h2).trans ?_);(iterate 5 refine (Below.heap_setCell _ _ _ _ h1).trans ?_);rw [P'.o];exact Below.heap_alloc _ _ _ (by have:=hb.2;omega)
              · intro b hb
                have:=hb.2;simp;omega
            refine AllReadyH.cons rfl (fun K hK=>?_) AllReadyH.nil;(try simp only [cr,cj,ch]);go_simp;obtain ⟨V2,mZ⟩:∃ V2,V2=V1.alloc (.cells #[.int .i64 0,.string ⟨#[]⟩,.int .i64 0] 27):=⟨_,rfl⟩;have wE:Hd (aj V2 V1.heap.size 27 #[.int .i64 0,.string ⟨#[]⟩,.int .i64 0]):=zh (by rw [mZ];exact aj.new _ _ _);have eS:Hd (Below W1.heap.size W1 V2):=zh (by rw [mZ];exact fg.o.alloc (by have:=fg.o.size;omega) _);(have OE:V2.heap.size≤V1.heap.size+1:=by rw [mZ];simp);(have OH:V1.heap.size+1≤V2.heap.size:=by rw [mZ];simp);have Ff:Hd (aj V2 W6.heap.size 25 #[.int .i64 0,.int .i64 0,.int .i64 0,.string ⟨#[]⟩,.slice none 0 0]):=zh (by rw [mZ];exact P6.o.alloc _);refine hK.out _ _ (by rw [World.cell?_alloc_past _ _ _ (by show tg<_;omega)];exact ac) (fun ac=>?_);clear hK K;(try simp only [Act.put,cr,cj,ch,UC,UB,VB]);rw [← mZ];rw [← mZ] at ac;have TW:=zh mZ;clear mZ;refine zq 16 (fun K hK=>?_);(try simp only [cr,cj,ch]);go_simp
            go_at_call 16
            refine (Uk.o _ eS.o).mono ?_;rintro e w7 ⟨ft,A7,c7,rfl,lH⟩;have p9:=zh lH;have MZ:=zh ft;have fz:=ft.size;(try simp at fz);have bf:Hd (Below W1.heap.size W1 w7):=zh (eS.o.trans (ft.mono (by have:=eS.o.size;omega)));have P7:Hd (aj w7 W6.heap.size 25 #[.int .i64 0,.int .i64 0,.int .i64 0,.string ⟨#[]⟩,.slice none 0 0]):=zh (Ff.o.below ft Ff.o.lt);have Fg:Hd (aj w7 V1.heap.size 27 #[.int .i64 0,.string ⟨#[]⟩,.int .i64 0]):=zh (wE.o.below ft wE.o.lt);refine hK.out _ _ ((ft.cell (p:=⟨tg,j * 4+1,none⟩) (by show tg<_;(try simp);omega)).trans ac) (fun ac=>?_);clear hK K ft lH;try simp only [Act.put,cr,cj,ch,UC,UB,VB]
            (refine wpAnyH_take (i:=17) (v:=?_) rfl (by kernel_rfl) (by kernel_rfl) (by kernel_rfl) (fun _ _ _ h=>h) (Or.inl ⟨by rfl,?_⟩) (by assumption) ?_;rotate_left;(intro W aH;(try dsimp only [ze] at aH);(try simp only [cr,cj,ch]);go_simp;first | done | rfl);try simp only [Act.put,cr,cj,ch,UC,UB,VB])
            (refine wpAnyH_take (i:=18) (v:=?_) rfl (by kernel_rfl) (by kernel_rfl) (by kernel_rfl) (fun _ _ _ h=>h) (Or.inl ⟨by rfl,?_⟩) (by assumption) ?_;rotate_left;(intro W aH;(try dsimp only [ze] at aH);(try simp only [cr,cj,ch]);go_simp;first | done | rfl);try simp only [Act.put,cr,cj,ch,UC,UB,VB])
            (refine wpAnyH_take (i:=19) (v:=?_) rfl (by kernel_rfl) (by kernel_rfl) (by kernel_rfl) (fun _ _ _ h=>h) (Or.inl ⟨by rfl,?_⟩) (by assumption) ?_;rotate_left;(intro W aH;(try dsimp only [ze] at aH);(try simp only [cr,cj,ch]);go_simp;first | done | rfl);try simp only [Act.put,cr,cj,ch,UC,UB,VB])
            have z9:=P7.o;have oe:=Fg.o;obtain ⟨y0,y1,y2,y3,y4,yf,yl⟩:=z9.cells5;have x0:=oe.cell 0;have x1:=oe.cell 1;have x2:=oe.cell 2;simp at x0 x1 x2;have xf:=oe.frozen;have xl:=oe.lt;(have gQ:W6.heap.size≠V1.heap.size:=by omega);have sy:V1.heap.size≠W6.heap.size:=by omega
            have fM:∀ (V:World) (k:Nat) (v:Value) (b:Nat),b≠tg→V.cell? ⟨tg,j * 4+1,none⟩=some (.int .i64 P)→(V.setCell ⟨b,k,none⟩ v).cell? ⟨tg,j * 4+1,none⟩=some (.int .i64 P):=fun V k v b hb hv=>by
              exact (World.cell?_setCell_far V ⟨b,k,none⟩ ⟨tg,j * 4+1,none⟩ v hb).trans hv
            refine zq 22 (fun K hK=>?_);(try simp only [cr,cj,ch]);go_simp;refine hK.out _ _ (fM _ 4 _ _ (by omega) (fM _ 3 _ _ (by omega) (fM _ 2 _ _ (by omega) (fM _ 1 _ _ (by omega) (fM _ 0 _ _ (by omega) ac))))) (fun ac=>?_);clear hK K;(try simp only [Act.put,cr,cj,ch,UC,UB,VB]);refine zq 23 (fun K hK=>?_);(try simp only [cr,cj,ch]);go_simp;refine hK.out _ _ (fM _ 2 _ _ (by omega) (fM _ 1 _ _ (by omega) (fM _ 0 _ _ (by omega) ac))) (fun ac=>?_);clear hK K;(try simp only [Act.put,cr,cj,ch,UC,UB,VB]);refine wpAnyH_done (by kernel_rfl) ?_ _;clear ac;go_wp2_with fail
            go_meet
            refine ⟨W6.heap.size,V1.heap.size,A7,c7,rfl,rfl,zh ((((((((bf.o.setCell (by have:=aR.o.size;have:=fg.o.size;have:=eS.o.size;have:=bf.o.size;show _≤_;(try simp only [World.heap_size_setCell]);omega) _).setCell (by have:=aR.o.size;have:=fg.o.size;have:=eS.o.size;have:=bf.o.size;show _≤_;(try simp only [World.heap_size_setCell]);omega) _).setCell (by have:=aR.o.size;have:=fg.o.size;have:=eS.o.size;have:=bf.o.size;show _≤_;(try simp only [World.heap_size_setCell]);omega) _).setCell (by have:=aR.o.size;have:=fg.o.size;have:=eS.o.size;have:=bf.o.size;show _≤_;(try simp only [World.heap_size_setCell]);omega) _).setCell (by have:=aR.o.size;have:=fg.o.size;have:=eS.o.size;have:=bf.o.size;show _≤_;(try simp only [World.heap_size_setCell]);omega) _).setCell (by have:=aR.o.size;have:=fg.o.size;have:=eS.o.size;have:=bf.o.size;show _≤_;(try simp only [World.heap_size_setCell]);omega) _).setCell (by have:=aR.o.size;have:=fg.o.size;have:=eS.o.size;have:=bf.o.size;show _≤_;(try simp only [World.heap_size_setCell]);omega) _).setCell (by have:=aR.o.size;have:=fg.o.size;have:=eS.o.size;have:=bf.o.size;show _≤_;(try simp only [World.heap_size_setCell]);omega) _),zh ((((P7.o.p5).far1 gQ _).far1 gQ _).far1 gQ _),zh (by simpa using ((((Fg.o.far5 sy _ _ _ _ _).set_ 0 _).set_ 1 _).set_ 2 _)),zh (p9.o.keep ?_ ?_)⟩
            · intro b hb
              (have h1:b≠W6.heap.size:=by have:=hb.1;have:=hb.2;omega);(have h2:b≠V1.heap.size:=by have:=hb.1;have:=hb.2;omega);(iterate 3 refine (Below.heap_setCell _ _ _ _ h2).trans ?_);(iterate 5 refine (Below.heap_setCell _ _ _ _ h1).trans ?_);rfl
            · intro b hb
              have:=hb.2;simp;omega
          refine AllReadyH.cons rfl (fun K hK=>?_) AllReadyH.nil;(try simp only [cr,cj,ch]);go_simp;obtain ⟨V1,zI⟩:∃ V1,V1=W6.alloc (.cells #[.int .i64 0,.string ⟨#[]⟩,.int .i64 0] 27):=⟨_,rfl⟩;have KP:Hd (aj V1 W6.heap.size 27 #[.int .i64 0,.string ⟨#[]⟩,.int .i64 0]):=zh (by rw [zI];exact aj.new _ _ _);have fg:Hd (Below W1.heap.size W1 V1):=zh (by rw [zI];exact aR.o.alloc (by have:=aR.o.size;omega) _);(have Wq:V1.heap.size≤W6.heap.size+1:=by rw [zI];simp);(have Ws:W6.heap.size+1≤V1.heap.size:=by rw [zI];simp);refine hK.out _ _ (by rw [World.cell?_alloc_past _ _ _ (by show tg<_;omega)];exact ac) (fun ac=>?_);clear hK K;(try simp only [Act.put,cr,cj,ch,UC,UB,VB]);rw [← zI];rw [← zI] at ac;have HV1:=zh zI;clear zI;refine wpAnyH_ready (rs:=[16,20]) (by kernel_rfl) (by simp) ?_;refine AllReadyH.cons rfl (fun K hK=>?_) ?_
          · skip
            (try simp only [cr,cj,ch]);go_simp
            go_at_call 16
            refine (Uk.o _ fg.o).mono ?_;rintro e w7 ⟨ft,A7,c7,rfl,lH⟩;have p9:=zh lH;have MZ:=zh ft;have fz:=ft.size;(try simp at fz);have bf:Hd (Below W1.heap.size W1 w7):=zh (fg.o.trans (ft.mono (by have:=fg.o.size;omega)));have Fg:Hd (aj w7 W6.heap.size 27 #[.int .i64 0,.string ⟨#[]⟩,.int .i64 0]):=zh (KP.o.below ft KP.o.lt);refine hK.out _ _ ((ft.cell (p:=⟨tg,j * 4+1,none⟩) (by show tg<_;(try simp);omega)).trans ac) (fun ac=>?_);clear hK K ft lH;try simp only [Act.put,cr,cj,ch,UC,UB,VB]
            (refine wpAnyH_take (i:=17) (v:=?_) rfl (by kernel_rfl) (by kernel_rfl) (by kernel_rfl) (fun _ _ _ h=>h) (Or.inl ⟨by rfl,?_⟩) (by assumption) ?_;rotate_left;(intro W aH;(try dsimp only [ze] at aH);(try simp only [cr,cj,ch]);go_simp;first | done | rfl);try simp only [Act.put,cr,cj,ch,UC,UB,VB])
            (refine wpAnyH_take (i:=18) (v:=?_) rfl (by kernel_rfl) (by kernel_rfl) (by kernel_rfl) (fun _ _ _ h=>h) (Or.inl ⟨by rfl,?_⟩) (by assumption) ?_;rotate_left;(intro W aH;(try dsimp only [ze] at aH);(try simp only [cr,cj,ch]);go_simp;first | done | rfl);try simp only [Act.put,cr,cj,ch,UC,UB,VB])
            (refine wpAnyH_take (i:=19) (v:=?_) rfl (by kernel_rfl) (by kernel_rfl) (by kernel_rfl) (fun _ _ _ h=>h) (Or.inl ⟨by rfl,?_⟩) (by assumption) ?_;rotate_left;(intro W aH;(try dsimp only [ze] at aH);(try simp only [cr,cj,ch]);go_simp;first | done | rfl);try simp only [Act.put,cr,cj,ch,UC,UB,VB])
            refine zq 20 (fun K hK=>?_);(try simp only [cr,cj,ch]);go_simp;obtain ⟨V3,mY⟩:∃ V3,V3=w7.alloc (.cells #[.int .i64 0,.int .i64 0,.int .i64 0,.string ⟨#[]⟩,.slice none 0 0] 25):=⟨_,rfl⟩;have wD:Hd (aj V3 w7.heap.size 25 #[.int .i64 0,.int .i64 0,.int .i64 0,.string ⟨#[]⟩,.slice none 0 0]):=zh (by rw [mY];exact aj.new _ _ _);have fI:Hd (Below W1.heap.size W1 V3):=zh (by rw [mY];exact bf.o.alloc (by have:=bf.o.size;omega) _);(have OD:V3.heap.size≤w7.heap.size+1:=by rw [mY];simp);(have OG:w7.heap.size+1≤V3.heap.size:=by rw [mY];simp);have oX:Hd (aj V3 W6.heap.size 27 #[.int .i64 0,.string ⟨#[]⟩,.int .i64 0]):=zh (by rw [mY];exact Fg.o.alloc _)
            skip
            refine hK.out _ _ (by rw [World.cell?_alloc_past _ _ _ (by show tg<_;omega)];exact ac) (fun ac=>?_);clear hK K;(try simp only [Act.put,cr,cj,ch,UC,UB,VB]);rw [← mY];rw [← mY] at ac;have P':=zh mY;clear mY;have z9:=wD.o;have oe:=oX.o;obtain ⟨y0,y1,y2,y3,y4,yf,yl⟩:=z9.cells5;have x0:=oe.cell 0;have x1:=oe.cell 1;have x2:=oe.cell 2;simp at x0 x1 x2;have xf:=oe.frozen;have xl:=oe.lt;(have gQ:w7.heap.size≠W6.heap.size:=by omega);have sy:W6.heap.size≠w7.heap.size:=by omega
            have fM:∀ (V:World) (k:Nat) (v:Value) (b:Nat),b≠tg→V.cell? ⟨tg,j * 4+1,none⟩=some (.int .i64 P)→(V.setCell ⟨b,k,none⟩ v).cell? ⟨tg,j * 4+1,none⟩=some (.int .i64 P):=fun V k v b hb hv=>by
              exact (World.cell?_setCell_far V ⟨b,k,none⟩ ⟨tg,j * 4+1,none⟩ v hb).trans hv
            refine zq 22 (fun K hK=>?_);(try simp only [cr,cj,ch]);go_simp;refine hK.out _ _ (fM _ 4 _ _ (by omega) (fM _ 3 _ _ (by omega) (fM _ 2 _ _ (by omega) (fM _ 1 _ _ (by omega) (fM _ 0 _ _ (by omega) ac))))) (fun ac=>?_);clear hK K;(try simp only [Act.put,cr,cj,ch,UC,UB,VB]);refine zq 23 (fun K hK=>?_);(try simp only [cr,cj,ch]);go_simp;refine hK.out _ _ (fM _ 2 _ _ (by omega) (fM _ 1 _ _ (by omega) (fM _ 0 _ _ (by omega) ac))) (fun ac=>?_);clear hK K;(try simp only [Act.put,cr,cj,ch,UC,UB,VB]);refine wpAnyH_done (by kernel_rfl) ?_ _;clear ac;go_wp2_with fail
            go_meet
            refine ⟨w7.heap.size,W6.heap.size,A7,c7,rfl,rfl,zh ((((((((fI.o.setCell (by have:=aR.o.size;have:=fg.o.size;have:=bf.o.size;have:=fI.o.size;show _≤_;(try simp only [World.heap_size_setCell]);omega) _).setCell (by have:=aR.o.size;have:=fg.o.size;have:=bf.o.size;have:=fI.o.size;show _≤_;(try simp only [World.heap_size_setCell]);omega) _).setCell (by have:=aR.o.size;have:=fg.o.size;have:=bf.o.size;have:=fI.o.size;show _≤_;(try simp only [World.heap_size_setCell]);omega) _).setCell (by have:=aR.o.size;have:=fg.o.size;have:=bf.o.size;have:=fI.o.size;show _≤_;(try simp only [World.heap_size_setCell]);omega) _).setCell (by have:=aR.o.size;have:=fg.o.size;have:=bf.o.size;have:=fI.o.size;show _≤_;(try simp only [World.heap_size_setCell]);omega) _).setCell (by have:=aR.o.size;have:=fg.o.size;have:=bf.o.size;have:=fI.o.size;show _≤_;(try simp only [World.heap_size_setCell]);omega) _).setCell (by have:=aR.o.size;have:=fg.o.size;have:=bf.o.size;have:=fI.o.size;show _≤_;(try simp only [World.heap_size_setCell]);omega) _).setCell (by have:=aR.o.size;have:=fg.o.size;have:=bf.o.size;have:=fI.o.size;show _≤_;(try simp only [World.heap_size_setCell]);omega) _),zh ((((wD.o.p5).far1 gQ _).far1 gQ _).far1 gQ _),zh (by simpa using ((((oX.o.far5 sy _ _ _ _ _).set_ 0 _).set_ 1 _).set_ 2 _)),zh (p9.o.keep ?_ ?_)⟩
            · intro b hb
              (have h1:b≠w7.heap.size:=by have:=hb.1;have:=hb.2;omega);(have h2:b≠W6.heap.size:=by have:=hb.1;have:=hb.2;omega);(iterate 3 refine (Below.heap_setCell _ _ _ _ h2).trans ?_);(iterate 5 refine (Below.heap_setCell _ _ _ _ h1).trans ?_);rw [P'.o];exact Below.heap_alloc _ _ _ (by have:=hb.2;omega)
            · intro b hb
              have:=hb.2;simp;omega
          refine AllReadyH.cons rfl (fun K hK=>?_) AllReadyH.nil;(try simp only [cr,cj,ch]);go_simp;obtain ⟨V2,mZ⟩:∃ V2,V2=V1.alloc (.cells #[.int .i64 0,.int .i64 0,.int .i64 0,.string ⟨#[]⟩,.slice none 0 0] 25):=⟨_,rfl⟩;have Ff:Hd (aj V2 V1.heap.size 25 #[.int .i64 0,.int .i64 0,.int .i64 0,.string ⟨#[]⟩,.slice none 0 0]):=zh (by rw [mZ];exact aj.new _ _ _);have eS:Hd (Below W1.heap.size W1 V2):=zh (by rw [mZ];exact fg.o.alloc (by have:=fg.o.size;omega) _);(have OE:V2.heap.size≤V1.heap.size+1:=by rw [mZ];simp);(have OH:V1.heap.size+1≤V2.heap.size:=by rw [mZ];simp);have wE:Hd (aj V2 W6.heap.size 27 #[.int .i64 0,.string ⟨#[]⟩,.int .i64 0]):=zh (by rw [mZ];exact KP.o.alloc _);refine hK.out _ _ (by rw [World.cell?_alloc_past _ _ _ (by show tg<_;omega)];exact ac) (fun ac=>?_);clear hK K;(try simp only [Act.put,cr,cj,ch,UC,UB,VB]);rw [← mZ];rw [← mZ] at ac;have TW:=zh mZ;clear mZ;refine zq 16 (fun K hK=>?_);(try simp only [cr,cj,ch]);go_simp
          go_at_call 16
          refine (Uk.o _ eS.o).mono ?_;rintro e w7 ⟨ft,A7,c7,rfl,lH⟩;have p9:=zh lH;have MZ:=zh ft;have fz:=ft.size;(try simp at fz);have bf:Hd (Below W1.heap.size W1 w7):=zh (eS.o.trans (ft.mono (by have:=eS.o.size;omega)));have P7:Hd (aj w7 V1.heap.size 25 #[.int .i64 0,.int .i64 0,.int .i64 0,.string ⟨#[]⟩,.slice none 0 0]):=zh (Ff.o.below ft Ff.o.lt);have Fg:Hd (aj w7 W6.heap.size 27 #[.int .i64 0,.string ⟨#[]⟩,.int .i64 0]):=zh (wE.o.below ft wE.o.lt);refine hK.out _ _ ((ft.cell (p:=⟨tg,j * 4+1,none⟩) (by show tg<_;(try simp);omega)).trans ac) (fun ac=>?_);clear hK K ft lH;try simp only [Act.put,cr,cj,ch,UC,UB,VB]
          (refine wpAnyH_take (i:=17) (v:=?_) rfl (by kernel_rfl) (by kernel_rfl) (by kernel_rfl) (fun _ _ _ h=>h) (Or.inl ⟨by rfl,?_⟩) (by assumption) ?_;rotate_left;(intro W aH;(try dsimp only [ze] at aH);(try simp only [cr,cj,ch]);go_simp;first | done | rfl);try simp only [Act.put,cr,cj,ch,UC,UB,VB])
          (refine wpAnyH_take (i:=18) (v:=?_) rfl (by kernel_rfl) (by kernel_rfl) (by kernel_rfl) (fun _ _ _ h=>h) (Or.inl ⟨by rfl,?_⟩) (by assumption) ?_;rotate_left;(intro W aH;(try dsimp only [ze] at aH);(try simp only [cr,cj,ch]);go_simp;first | done | rfl);try simp only [Act.put,cr,cj,ch,UC,UB,VB])
          (refine wpAnyH_take (i:=19) (v:=?_) rfl (by kernel_rfl) (by kernel_rfl) (by kernel_rfl) (fun _ _ _ h=>h) (Or.inl ⟨by rfl,?_⟩) (by assumption) ?_;rotate_left;(intro W aH;(try dsimp only [ze] at aH);(try simp only [cr,cj,ch]);go_simp;first | done | rfl);try simp only [Act.put,cr,cj,ch,UC,UB,VB])
          have z9:=P7.o;have oe:=Fg.o;obtain ⟨y0,y1,y2,y3,y4,yf,yl⟩:=z9.cells5;have x0:=oe.cell 0;have x1:=oe.cell 1;have x2:=oe.cell 2;simp at x0 x1 x2;have xf:=oe.frozen;have xl:=oe.lt;(have gQ:V1.heap.size≠W6.heap.size:=by omega);have sy:W6.heap.size≠V1.heap.size:=by omega
          have fM:∀ (V:World) (k:Nat) (v:Value) (b:Nat),b≠tg→V.cell? ⟨tg,j * 4+1,none⟩=some (.int .i64 P)→(V.setCell ⟨b,k,none⟩ v).cell? ⟨tg,j * 4+1,none⟩=some (.int .i64 P):=fun V k v b hb hv=>by
            exact (World.cell?_setCell_far V ⟨b,k,none⟩ ⟨tg,j * 4+1,none⟩ v hb).trans hv
          refine zq 22 (fun K hK=>?_);(try simp only [cr,cj,ch]);go_simp;refine hK.out _ _ (fM _ 4 _ _ (by omega) (fM _ 3 _ _ (by omega) (fM _ 2 _ _ (by omega) (fM _ 1 _ _ (by omega) (fM _ 0 _ _ (by omega) ac))))) (fun ac=>?_);clear hK K;(try simp only [Act.put,cr,cj,ch,UC,UB,VB]);refine zq 23 (fun K hK=>?_);(try simp only [cr,cj,ch]);go_simp;refine hK.out _ _ (fM _ 2 _ _ (by omega) (fM _ 1 _ _ (by omega) (fM _ 0 _ _ (by omega) ac))) (fun ac=>?_);clear hK K;(try simp only [Act.put,cr,cj,ch,UC,UB,VB]);refine wpAnyH_done (by kernel_rfl) ?_ _;clear ac;go_wp2_with fail
          go_meet
          refine ⟨V1.heap.size,W6.heap.size,A7,c7,rfl,rfl,zh ((((((((bf.o.setCell (by have:=aR.o.size;have:=fg.o.size;have:=eS.o.size;have:=bf.o.size;show _≤_;(try simp only [World.heap_size_setCell]);omega) _).setCell (by have:=aR.o.size;have:=fg.o.size;have:=eS.o.size;have:=bf.o.size;show _≤_;(try simp only [World.heap_size_setCell]);omega) _).setCell (by have:=aR.o.size;have:=fg.o.size;have:=eS.o.size;have:=bf.o.size;show _≤_;(try simp only [World.heap_size_setCell]);omega) _).setCell (by have:=aR.o.size;have:=fg.o.size;have:=eS.o.size;have:=bf.o.size;show _≤_;(try simp only [World.heap_size_setCell]);omega) _).setCell (by have:=aR.o.size;have:=fg.o.size;have:=eS.o.size;have:=bf.o.size;show _≤_;(try simp only [World.heap_size_setCell]);omega) _).setCell (by have:=aR.o.size;have:=fg.o.size;have:=eS.o.size;have:=bf.o.size;show _≤_;(try simp only [World.heap_size_setCell]);omega) _).setCell (by have:=aR.o.size;have:=fg.o.size;have:=eS.o.size;have:=bf.o.size;show _≤_;(try simp only [World.heap_size_setCell]);omega) _).setCell (by have:=aR.o.size;have:=fg.o.size;have:=eS.o.size;have:=bf.o.size;show _≤_;(try simp only [World.heap_size_setCell]);omega) _),zh ((((P7.o.p5).far1 gQ _).far1 gQ _).far1 gQ _),zh (by simpa using ((((Fg.o.far5 sy _ _ _ _ _).set_ 0 _).set_ 1 _).set_ 2 _)),zh (p9.o.keep ?_ ?_)⟩
          · intro b hb
            (have h1:b≠V1.heap.size:=by have:=hb.1;have:=hb.2;omega);(have h2:b≠W6.heap.size:=by have:=hb.1;have:=hb.2;omega);(iterate 3 refine (Below.heap_setCell _ _ _ _ h2).trans ?_);(iterate 5 refine (Below.heap_setCell _ _ _ _ h1).trans ?_);rfl
          · intro b hb
            have:=hb.2;simp;omega
        case rest=>
          obtain ⟨b9,NE,A,c,rfl,rfl,U',hK9,Xp,Xk⟩:=hcut;obtain ⟨W8,hW8⟩:∃ W8,W8=wc:=⟨_,rfl⟩;subst hW8;have ZZ:=ZY.o.below U'.o ZY.o.lt;obtain ⟨a0,a1,a2,a3,a4,af,al⟩:=ZZ.cells5;obtain ⟨e0,e1,e2,e3,e4,ef,el⟩:=hK9.o.cells5;have f0:=Xp.o.cell 0;simp at f0;clear ZZ t0 t1;have UU:bG W8 (fun b=>b<W8.heap.size) (.mk nk nf nt Qm M_) [.int .i64 nk,.int .i64 nf,.int .i64 nt,.string Qm,.slice A' M_.length c']:=bG.mk_ (n:=.mk nk nf nt Qm M_) (HRA.o.keep (aI.of_below U'.o fun b h=>h) fun b h=>by have h:b<W1.heap.size:=h;have:=U'.o.size;omega);have UT:bG W8 (fun b=>b<W8.heap.size) n' [.int .i64 n'.k,.int .i64 n'.fr,.int .i64 n'.to,.string n'.tx,.slice A n'.ks.length c]:=bG.mk_ (n:=n') Xk.o;have HS:=zh (Dq UU UT HE.o);clear UU UT;have ZQ:Hd (Below w.heap.size w W8):=zh (AP.o.trans (U'.o.mono Qr));go_wp2_with fail;refine HS.o.mono ?_;rintro e w9 ⟨rfl,Y4⟩;have eG:Hd (Below w.heap.size w w9):=zh (ZQ.o.trans (Y4.mono ZQ.o.size));clear Y4 a0 a1 a2 a3 a4 e0 e1 e2 e3 e4 f0;go_wp2_with fail;refine (HA.o _ eG.o).mono ?_;rintro e gP ⟨rfl,R7⟩;have cL:=zh (eG.o.trans (R7.mono eG.o.size));clear R7;go_wp2_with fail;go_ret;exact ⟨rfl,cL.o⟩
end
end Go.Proofs.YtfmgdmeopakdaaaGreatDoor
