/- Parts of one proof. -/
import Derived.Test.YtfmgdmeopakdaaaGreatDoorMB2
import Derived.Deep.RegionHeld
set_option linter.unusedVariables false
set_option linter.unusedSimpArgs false
namespace Go.Proofs.YtfmgdmeopakdaaaGreatDoor
open Go Go.RowKit Tryz
set_option maxRecDepth 100000
set_option maxHeartbeats 40000000
section
variable {E:Env} {G:Gr} {lo:Nat} {w:World} {i:Nat} {b:Bool}
theorem ue (args:Array Value) (w:World):(callFunc 122 args).run prog w = .ok (.enter 122 args) w:=by kernel_rfl
theorem xd (hE:eH E) (hF:GF E.ts G lo) (hO:OkG E G) (dA:lo≤i) {r:Except Int (No×Ps)} (hr:dY E.ts G (i,b)=some r) (h:PS E w i b):Calls prog 87 #[(.pointer (some ⟨E.g,0,none⟩))] w (cV E eh w (lp w) r):=by
  have fU:=h.glt;have ic:=h.lt;have iS:=hE.len;have eY:=h.ilt;have HP:=zh h;have HE:=zh hE;have cT:Hd (ay (fun k=>gX E k) w w):=zh zb;have HF:=zh hF;have HO:=zh hO;clear hF hO;clear h hE;have iM:=aO;have iT:=aU;have jf:=aT;have iL:=aS;go_enter func87,ntmps87;unfold dY at hr;replace hr:=bW hr;go_wp2_with fail;refine (bT HE.o ((HP.o.alloc _).alloc _)).mono ?_;rintro e w1 ⟨rfl,hb⟩;simp only [cu];obtain ⟨hx,et,hw⟩:=Vw (E:=E) hb;have d5:=fJ w.heap.size hx;have cM:=cW (w.heap.size+1) hx;have bp:=kG HP hb;have a7:=b0 cT hw;clear hw hb hx;by_cases hk:(E.tok i).k=2
  ·
   rw [if_pos hk] at hr;(have sa:((E.tok i).k == 2)=true:=by simpa using hk);have kR:i+1<E.ts.length:=HE.o.wt.nxt _ eY (by intro e;have h9:(E.tok i).k=7:=e;rw [hk] at h9;exact absurd h9 (by decide));clear hk;replace hr:=cy hr;obtain ⟨nb,rF,rE,na,m_⟩:=bp.o.cells;obtain ⟨bg,bi,bh⟩:=d5.o.c1;go_wp2_with fail;refine (ak HE.o ((bp.o.set1 (j:=i+1) kR).alloc _) (by omega)).mono ?_;rintro e w2 ⟨rfl,hb⟩;have hx:=rn (E:=E) hb;have ep:=hx.size;(try simp at ep);have hw:ay (Xs E []) w1 w2:=((zb.set_ (p:=⟨E.g,1,none⟩) (.inr (.inl rfl)) _).alloc _).trans hx xg;obtain ⟨dU,bO⟩:=dJ d5 cM hw;have CP:=cW w1.heap.size hx;have bn:=zh (((bp.o.set1 (j:=i+1) kR).alloc _).below hb);have aE:=b0 a7 hw;clear nb rF rE na m_ bg bi bh d5 cM bp a7 hw hb hx;obtain ⟨di,dh,de,dd,dc,db,da⟩:=bO.o.cells5;go_wp2_with fail;obtain rfl:=a6 hr;exact am (r:=w.heap.size+1) results87 (by rfl) bO.o.p5 (by rfl) ⟨aE.o.s5,bn.o.f6,_,rfl,_,_,rfl,aQ.nil_⟩
  ·
   rw [if_neg hk] at hr;(have fT:((E.tok i).k == 2)=false:=by simpa using hk);clear hk;by_cases hk:(E.tok i).k=3
   ·
    rw [if_pos hk] at hr;(have sa:((E.tok i).k == 3)=true:=by simpa using hk);have kR:i+1<E.ts.length:=HE.o.wt.nxt _ eY (by intro e;have h9:(E.tok i).k=7:=e;rw [hk] at h9;exact absurd h9 (by decide));clear hk;replace hr:=cy hr;obtain ⟨nb,rF,rE,na,m_⟩:=bp.o.cells;obtain ⟨bg,bi,bh⟩:=d5.o.c1;go_wp2_with fail;refine (ak HE.o ((bp.o.set1 (j:=i+1) kR).alloc _) (by omega)).mono ?_;rintro e w2 ⟨rfl,hb⟩;have hx:=rn (E:=E) hb;have ep:=hx.size;(try simp at ep);have hw:ay (Xs E []) w1 w2:=((zb.set_ (p:=⟨E.g,1,none⟩) (.inr (.inl rfl)) _).alloc _).trans hx xg;obtain ⟨dU,bO⟩:=dJ d5 cM hw;have CP:=cW w1.heap.size hx;have bn:=zh (((bp.o.set1 (j:=i+1) kR).alloc _).below hb);have aE:=b0 a7 hw;clear nb rF rE na m_ bg bi bh d5 cM bp a7 hw hb hx;obtain ⟨di,dh,de,dd,dc,db,da⟩:=bO.o.cells5;go_wp2_with fail;obtain rfl:=a6 hr;exact am (r:=w.heap.size+1) results87 (by rfl) bO.o.p5 (by rfl) ⟨aE.o.s5,bn.o.f6,_,rfl,_,_,rfl,aQ.nil_⟩
   ·
    rw [if_neg hk] at hr;(have GW:((E.tok i).k == 3)=false:=by simpa using hk);clear hk;obtain ⟨nb,rF,rE,na,m_⟩:=bp.o.cells;obtain ⟨bg,bi,bh⟩:=d5.o.c1;go_wp2_with fail;refine eO (E:=E) (gD HE.o (bp.o.alloc _)) ?_;intro w2 hb hx ep hw;obtain ⟨dU,bO⟩:=dJ d5 cM hw;have CP:=cW w1.heap.size hx;have bn:=dX bp hb;have aE:=b0 a7 hw;clear nb rF rE na m_ bg bi bh d5 cM bp a7 hw hb hx;by_cases hk:(E.tok i).k=1
    ·
     rw [if_pos hk] at hr;rw [show decide ((E.tok i).k=1)=true from decide_eq_true hk];clear hk;obtain ⟨bg,bi,bh⟩:=dU.o.c1;go_wp2_with fail;refine (zi HE.o HF.o HO.o (by omega) hr bn.o).mono ?_;rintro e w3 hp;rcases r with p | ⟨x,i2,b2⟩
     ·
      obtain ⟨hb,rfl⟩:=hp;go_wp2_with fail;exact ⟨rfl,aE.o.trans hb mg,rfl⟩
     obtain ⟨hb,hp,v,rfl,A2,c2,rfl,ae⟩:=hp;(try dsimp only at hp ae);obtain ⟨fK,hw⟩:=ez hb;obtain ⟨eQ,cC,E'⟩:=fq dU bO CP hw;have bD:=zh hp;have be:=b0 aE hw;clear bg bi bh dU bO CP bn aE hw;have po:Hd (aQ w3 (Iv w2.heap.size w3.heap.size) (.slice A2 x.ks.length c2) x.ks):=zh (ae.keep zr fun k hk=>⟨by have h1:=hk.1;(try simp at h1);omega,hk.2⟩);obtain ⟨di,dh,de,dd,dc,db,da⟩:=cC.o.cells5;go_wp2_with fail;exact am (r:=w.heap.size+1) results87 (by rfl) cC.o.p5 (by rfl) ⟨be.o.s5,bD.o.f6,_,rfl,_,_,rfl,(zw po)⟩
    ·
     rw [if_neg hk] at hr;rw [show decide ((E.tok i).k=1)=false from decide_eq_false hk];clear hk;obtain ⟨bg,bi,bh⟩:=dU.o.c1;go_wp2_with fail;by_cases hq:oneOf (E.tok i) [⟨#[40]⟩]=true
     ·
      replace hr:=aM hr hq;(try rw [if_pos rfl] at hr);refine qd (qG [⟨#[40]⟩] HE bn hq) ?_;intro w3 hp hb hx fK hw;obtain ⟨eQ,cC,E'⟩:=fq dU bO CP hw;have bD:=zh hp;have be:=b0 aE hw;clear bg bi bh dU bO CP bn aE hw hb hx hp hq;obtain ⟨bg,bi,bh⟩:=eQ.o.c1;go_wp2_with fail;obtain ⟨ry,h0,hr⟩:=ag hr;obtain ⟨rz,hz,rfl⟩:=ff h0;clear h0;refine (kH (R1:=cV E (fun k=>k=w3.heap.size) _ (fun (w':World) (x:No) (v:Value)=>v = .tuple #[]∧∃ A c,aj w' w3.heap.size 25 #[.int .i64 x.k,.int .i64 x.fr,.int .i64 x.to,.string x.tx,.slice A x.ks.length c]∧aQ w' (kE _ w') (.slice A x.ks.length c) x.ks) rz) (bD.o.alloc _) rfl (ue _) (vp (xb:=w3.heap.size) (pb:=w.heap.size) HE.o HO.o (by omega) (by omega) (by omega) (by omega) (by omega) hz ((bD.o.alloc _).set2 false) ((aj.new' (by simp)).far1 (r:=E.g) (o:=2) (by omega) _) ((eQ.o.alloc _).far1 (r:=E.g) (o:=2) (by omega) _)) ?_);intro e w4 hA;rcases rz with p | ⟨x4,i4,b4⟩
      ·
       obtain ⟨hb,rfl⟩:=hA;refine .inl ⟨_,rfl,?_⟩;(try dsimp only at hr);subst hr;go_wp2_with fail;exact ⟨rfl,((be.o.alloc _).set_ (p:=⟨E.g,2,none⟩) (.inr (.inl rfl)) _).trans hb (fun k hk h=>by rcases h with h | h;exact .inl h;all_goals first | exact h.elim | exact .inr h | exact .inr (.inl h) | (exfalso;omega)),rfl⟩
      obtain ⟨hb,cq,v,rfl,rfl,A2,c2,hx,ae⟩:=hA;(try dsimp only at hr cq hx ae);obtain ⟨Ea,-,wO⟩:=(HF.o.expr _ _ (by omega) bD.o.ilt).2 _ _ hz;dsimp only at Ea wO;subst b4;refine .inr ⟨rfl,i4,false,cq,?_⟩;have iV:=hb.size;(try simp at iV);have hw:ay (Xs E [w3.heap.size]) w3 w4:=((zb.alloc _).set_ (p:=⟨E.g,2,none⟩) (.inr (.inl rfl)) _).trans hb (fun k _ h=>by rcases h with h | h <;> simp [Xs,h]);have fC:=k1 eQ hw;have cS:=k1 cC hw;have um:=k1 E' hw;have bM:=zh cq;have bu:=b1 be hw (by omega);clear bg bi bh eQ cC E' bD be hw;have Ar:Hd (aj w4 w3.heap.size 25 #[.int .i64 x4.k,.int .i64 x4.fr,.int .i64 x4.to,.string x4.tx,.slice A2 x4.ks.length c2]):=zh hx;have se:=zn (lo:=(w3.heap.size+1)) ae;clear hb cq hx ae hz;obtain ⟨bg,bi,bh⟩:=fC.o.c1;go_wp2_with fail;by_cases hq:oneOf (E.tok i4) [⟨#[41]⟩]=true
      case neg=>
       replace hq:=Bool.eq_false_iff.2 hq;replace hr:=aZ hr hq;subst hr;refine (ci (x:=⟨#[41]⟩) HE.o (bM.o.set2 b) hq).mono ?_;rintro e wz ⟨rfl,hb⟩;go_wp2_with fail;exact ⟨rfl,(bu.o.set_ (p:=⟨E.g,2,none⟩) (.inr (.inl rfl)) _).then_ hb,rfl⟩
      case pos=>
       replace hr:=aY hr hq;refine (bI (x:=⟨#[41]⟩) HE.o (bM.o.set2 b) hq).mono ?_;rintro e w5 ⟨rfl,hp,hb⟩;simp only [cu];have hx:=xm hb;have jY:=hx.size;(try simp at jY);have hw:ay (Xs E []) w4 w5:=(zb.set_ (p:=⟨E.g,2,none⟩) (.inr (.inl rfl)) _).trans hx xg;obtain ⟨fy,cN,jP,CO⟩:=jd fC cS um Ar hw;have pX:=n0 se hw;have bH:=zh hp;have a8:=b0 bu hw;clear bg bi bh fC cS um Ar se bM bu hw hb hx hp hq;obtain ⟨bg,bi,bh⟩:=fy.o.c1;obtain ⟨qL,qK,qJ,qI,pH,qg,qe⟩:=CO.o.cells5;go_wp2_with fail;refine eO (E:=E) (ak HE.o (bH.o.alloc _) (by omega)) ?_;intro w6 hb hx iK hw;obtain ⟨fe,cJ,gR,sU⟩:=jd fy cN jP CO hw;have wC:=cW w5.heap.size hx;have gm:=n0 pX hw;have bC:=dX bH hb;have aR:=b0 a8 hw;clear bg bi bh qL qK qJ qI pH qg qe fy cN jP CO pX bH a8 hw hb hx;obtain ⟨di,dh,de,dd,dc,db,da⟩:=cJ.o.cells5;go_wp2_with fail;obtain rfl:=a6 hr;exact am (r:=w.heap.size+1) results87 (by rfl) cJ.o.p5 (by rfl) ⟨aR.o.s5,bC.o.f6,_,rfl,_,_,rfl,aJ (n:=1) wC.o.f5 (aC.one (zv (E:=E) gm)) rfl (by decide) (⟨by omega,by simp <;> omega⟩)⟩
     ·
      replace hq:=Bool.eq_false_iff.2 hq;replace hr:=aN hr hq;(try rw [if_neg Bool.false_ne_true] at hr);refine eO (E:=E) (qH [⟨#[40]⟩] HE bn hq) ?_;intro w3 hb hx fK hw;obtain ⟨eQ,cC,E'⟩:=fq dU bO CP hw;have bD:=dX bn hb;have be:=b0 aE hw;clear bg bi bh dU bO CP bn aE hw hb hx hq;obtain ⟨bg,bi,bh⟩:=eQ.o.c1;go_wp2_with fail;by_cases hq:oneOf (E.tok i) [⟨#[102,117,110,99]⟩]=true
      ·
       replace hr:=aM hr hq;(try rw [if_pos rfl] at hr);refine qd (qG [⟨#[102,117,110,99]⟩] HE bD hq) ?_;intro w4 hp hb hx iV hw;obtain ⟨fC,cS,um⟩:=fq eQ cC E' hw;have bM:=zh hp;have bu:=b0 be hw;clear bg bi bh eQ cC E' bD be hw hb hx hp hq;obtain ⟨bg,bi,bh⟩:=fC.o.c1;go_wp2_with fail
       go_cut [6,7] (fun s6 s7 W=>∃ (g6 g7 i2:Nat) (xa:No) (Aa:Option Addr) (ca:Nat) (xb:No) (Ab:Option Addr) (cb:Nat),s6 = .pointer (some ⟨g6,0,none⟩)∧s7 = .pointer (some ⟨g7,0,none⟩)∧i<i2∧w4.heap.size≤g6∧w4.heap.size≤g7∧Hd ((fG E.ts G >>= fun y=>bd E.ts 45 (E.tok i).fr ⟨#[]⟩ [xa,xb,y]) (i2,b)=some r)∧Hd (PS E W i2 b)∧Hd (ay (fun k=>gX E k) w W)∧Hd (aj W w.heap.size 49 #[(.pointer (some ⟨E.g,0,none⟩))])∧Hd (aj W (w.heap.size+1) 25 #[.int .i64 0,.int .i64 0,.int .i64 0,.string ⟨#[]⟩,.slice none 0 0])∧Hd (aj W g6 25 #[.int .i64 xa.k,.int .i64 xa.fr,.int .i64 xa.to,.string xa.tx,.slice Aa xa.ks.length ca])∧Hd (aj W g7 25 #[.int .i64 xb.k,.int .i64 xb.fr,.int .i64 xb.to,.string xb.tx,.slice Ab xb.ks.length cb])∧Hd (bG W (Iv w4.heap.size W.heap.size) xa [.int .i64 xa.k,.int .i64 xa.fr,.int .i64 xa.to,.string xa.tx,.slice Aa xa.ks.length ca])∧Hd (bG W (Iv w4.heap.size W.heap.size) xb [.int .i64 xb.k,.int .i64 xb.fr,.int .i64 xb.to,.string xb.tx,.slice Ab xb.ks.length cb]))
       case first=>
        refine wp_region_held_drew (S:=(fun w'=>w'.cell? ⟨w.heap.size,0,none⟩=some (.pointer (some ⟨E.g,0,none⟩)))) (by kernel_rfl) (by simpa using bg) (fun ac=>?_);obtain ⟨w5,hW⟩:∃ W,W=w4.drew:=⟨_,rfl⟩;rw [← hW] at ac ⊢;(have hb:Below w4.heap.size w4 w5:=by rw [hW];exact (Below.refl _ _).drew);clear hW;have hx:ay (fun k=>gX E k) _ _:=ay.of_below hb;have jY:=hx.size;(try simp at jY);have hw:=UI hx;obtain ⟨fy,cN,jP⟩:=fq fC cS um hw;have bH:=fN bM hb;have a8:=b0 bu hw;clear bg bi bh fC cS um bM bu hw hb hx;refine wpAnyH_take (i:=0) (v:=?_) rfl (by kernel_rfl) (by kernel_rfl) (by kernel_rfl) (fun _ _ _ h=>h) (Or.inl ⟨by rfl,?_⟩) (by assumption) ?_
        rotate_left
        ·
         intro W aH;(try dsimp only [ze] at aH);(try simp only [cr,cj,ch]);go_simp;first | done | rfl
        (try simp only [zl]);refine wpAnyH_take (i:=2) (v:=?_) rfl (by kernel_rfl) (by kernel_rfl) (by kernel_rfl) (fun _ _ _ h=>h) (Or.inl ⟨by rfl,?_⟩) (by assumption) ?_
        rotate_left
        ·
         intro W aH;(try dsimp only [ze] at aH);(try simp only [cr,cj,ch]);go_simp;first | done | rfl
        (try simp only [zl]);refine wpAnyH_ready (rs:=[1,4,5]) (by kernel_rfl) (by simp) ?_;refine AllReadyH.cons rfl (fun K hK=>?_) ?_
        ·
         (try simp only [cr,cj,ch]);go_simp
         go_at_call 97
         obtain ⟨rx,h1,hr⟩:=ag hr;refine (ei HE.o HF.o HO.o (by omega) h1 bH.o).mono ?_;rintro e w6 hp;rcases rx with p | ⟨x6,i6,b6⟩
         ·
          obtain ⟨hb,rfl⟩:=hp;cases hr;(try go_wp2_with fail);exact ⟨rfl,a8.o.trans hb mg,rfl⟩
         (try dsimp only at hr);obtain ⟨xj,rfl⟩:=zf ((eD HE.o.wt HF.o (by omega) bH.o.ilt).2 _ _ h1);obtain ⟨hb,hp,v,rfl,A6,c6,rfl,ae⟩:=hp;(try dsimp only at hp ae);obtain ⟨iK,hw⟩:=ez hb;obtain ⟨fe,cJ,gR⟩:=fq fy cN jP hw;have bC:=zh hp;have aR:=b0 a8 hw;clear fy cN jP bH a8 hw;have gm:=zn (lo:=w5.heap.size) ae;clear ae hb hp h1;refine hK.out _ _ ((fe.o.cell 0).trans rfl) (fun ac=>?_);clear hK K;(try simp only [zl]);refine wpAnyH_ready (rs:=[3,4,5]) (by kernel_rfl) (by simp) ?_;refine AllReadyH.cons rfl (fun K hK=>?_) ?_
         ·
          (try simp only [cr,cj,ch]);go_simp
          go_at_call 98
          obtain ⟨rx,h1,hr⟩:=ag hr;refine (bL HE.o HF.o HO.o (by omega) h1 bC.o).mono ?_;rintro e w7 hp;rcases rx with p | ⟨x7,i7,b7⟩
          ·
           obtain ⟨hb,rfl⟩:=hp;cases hr;(try go_wp2_with fail);exact ⟨rfl,aR.o.trans hb mg,rfl⟩
          (try dsimp only at hr);obtain ⟨vB,rfl⟩:=zf ((bK HE.o.wt HF.o (by omega) bC.o.ilt).2 _ _ h1);obtain ⟨hb,hp,v,rfl,A7,c7,rfl,ae⟩:=hp;(try dsimp only at hp ae);obtain ⟨fz,hw⟩:=ez hb;obtain ⟨eb,cQ,kj⟩:=fq fe cJ gR hw;have ie:=n0 gm hw;have bR:=zh hp;have bf:=b0 aR hw;clear fe cJ gR gm bC aR hw;have sd:=zn (lo:=w6.heap.size) ae;clear ae hb hp h1;refine hK.out _ _ ((eb.o.cell 0).trans rfl) (fun ac=>?_);clear hK K;(try simp only [zl]);refine wpAnyH_ready (rs:=[4,5]) (by kernel_rfl) (by simp) ?_;refine AllReadyH.cons rfl (fun K hK=>?_) ?_
          ·
           (try simp only [cr,cj,ch]);go_simp;refine hK.out _ _ (((eb.o.alloc _).cell 0).trans rfl) (fun ac=>?_);clear hK K;(try simp only [zl]);refine wpAnyH_ready (rs:=[5]) (by kernel_rfl) (by simp) ?_;refine AllReadyH.cons rfl (fun K hK=>?_) ?_
           ·
            (try simp only [cr,cj,ch]);go_simp;refine hK.out _ _ ((((eb.o.alloc _).alloc _).cell 0).trans rfl) (fun ac=>?_);clear hK K;(try simp only [zl]);refine wpAnyH_ready (rs:=[6]) (by kernel_rfl) (by simp) ?_;refine AllReadyH.cons rfl (fun K hK=>?_) ?_
            ·
             (try simp only [cr,cj,ch]);go_simp;refine hK.out _ _ ((((eb.o.alloc _).alloc _).cell 0).trans rfl) (fun ac=>?_);clear hK K;(try simp only [zl]);refine wpAnyH_ready (rs:=[7]) (by kernel_rfl) (by simp) ?_;refine AllReadyH.cons rfl (fun K hK=>?_) ?_
             ·
              (try simp only [cr,cj,ch]);go_simp;refine hK.out _ _ ((((eb.o.alloc _).alloc _).cell 0).trans rfl) (fun ac=>?_);clear hK K;(try simp only [zl]);refine wpAnyH_done (by kernel_rfl) ?_ _;first | go_wp2_with fail | skip
              go_meet
              exact ⟨w7.heap.size,w7.heap.size+1,_,_,_,_,_,_,_,rfl,rfl,by omega,by omega,by omega,zh hr,zh ((bR.o.alloc _).alloc _),zh ((bf.o.alloc _).alloc _),zh ((eb.o.alloc _).alloc _),zh ((cQ.o.alloc _).alloc _),zh ((aj.new' (by simp)).alloc _),zh (aj.new' (by simp)),zh (nk ie ((zr.za _).za _) (by omega) (by first|omega|simp<;>omega)),zh (nk sd ((zr.za _).za _) (by omega) (by first|omega|simp<;>omega))⟩
             exact AllReadyH.nil
            exact AllReadyH.nil
           exact AllReadyH.nil
          refine AllReadyH.cons rfl (fun K hK=>?_) ?_
          ·
           (try simp only [cr,cj,ch]);go_simp;refine hK.out _ _ (((eb.o.alloc _).cell 0).trans rfl) (fun ac=>?_);clear hK K;(try simp only [zl]);refine wpAnyH_ready (rs:=[4]) (by kernel_rfl) (by simp) ?_;refine AllReadyH.cons rfl (fun K hK=>?_) ?_
           ·
            (try simp only [cr,cj,ch]);go_simp;refine hK.out _ _ ((((eb.o.alloc _).alloc _).cell 0).trans rfl) (fun ac=>?_);clear hK K;(try simp only [zl]);refine wpAnyH_ready (rs:=[6]) (by kernel_rfl) (by simp) ?_;refine AllReadyH.cons rfl (fun K hK=>?_) ?_
            ·
             (try simp only [cr,cj,ch]);go_simp;refine hK.out _ _ ((((eb.o.alloc _).alloc _).cell 0).trans rfl) (fun ac=>?_);clear hK K;(try simp only [zl]);refine wpAnyH_ready (rs:=[7]) (by kernel_rfl) (by simp) ?_;refine AllReadyH.cons rfl (fun K hK=>?_) ?_
             ·
              (try simp only [cr,cj,ch]);go_simp;refine hK.out _ _ ((((eb.o.alloc _).alloc _).cell 0).trans rfl) (fun ac=>?_);clear hK K;(try simp only [zl]);refine wpAnyH_done (by kernel_rfl) ?_ _;first | go_wp2_with fail | skip
              go_meet
              exact ⟨w7.heap.size+1,w7.heap.size,_,_,_,_,_,_,_,rfl,rfl,by omega,by omega,by omega,zh hr,zh ((bR.o.alloc _).alloc _),zh ((bf.o.alloc _).alloc _),zh ((eb.o.alloc _).alloc _),zh ((cQ.o.alloc _).alloc _),zh (aj.new' (by simp)),zh ((aj.new' (by simp)).alloc _),zh (nk ie ((zr.za _).za _) (by omega) (by first|omega|simp<;>omega)),zh (nk sd ((zr.za _).za _) (by omega) (by first|omega|simp<;>omega))⟩
             exact AllReadyH.nil
            exact AllReadyH.nil
           exact AllReadyH.nil
          exact AllReadyH.nil
         refine AllReadyH.cons rfl (fun K hK=>?_) ?_
         ·
          (try simp only [cr,cj,ch]);go_simp;refine hK.out _ _ (((fe.o.alloc _).cell 0).trans rfl) (fun ac=>?_);clear hK K;(try simp only [zl]);refine wpAnyH_ready (rs:=[3,5]) (by kernel_rfl) (by simp) ?_;refine AllReadyH.cons rfl (fun K hK=>?_) ?_
          ·
           (try simp only [cr,cj,ch]);go_simp
           go_at_call 98
           obtain ⟨rx,h1,hr⟩:=ag hr;refine (bL HE.o HF.o HO.o (by omega) h1 (bC.o.alloc _)).mono ?_;rintro e w7 hp;rcases rx with p | ⟨x7,i7,b7⟩
           ·
            obtain ⟨hb,rfl⟩:=hp;cases hr;(try go_wp2_with fail);exact ⟨rfl,(aR.o.alloc _).trans hb mg,rfl⟩
           (try dsimp only at hr);obtain ⟨vB,rfl⟩:=zf ((bK HE.o.wt HF.o (by omega) bC.o.ilt).2 _ _ h1);obtain ⟨hb,hp,v,rfl,A7,c7,rfl,ae⟩:=hp;(try dsimp only at hp ae);have fz:=hb.size;(try simp at fz);have hw:ay (Xs E []) w6 w7:=(zb.alloc _).trans hb xg;obtain ⟨eb,cQ,kj⟩:=fq fe cJ gR hw;have ls:=cW w6.heap.size hb;have ie:=n0 gm hw;have bR:=zh hp;have bf:=b0 aR hw;clear fe cJ gR gm bC aR hw;have sd:=zn (lo:=(w6.heap.size+1)) ae;clear ae hb hp h1;refine hK.out _ _ ((eb.o.cell 0).trans rfl) (fun ac=>?_);clear hK K;(try simp only [zl]);refine wpAnyH_ready (rs:=[5]) (by kernel_rfl) (by simp) ?_;refine AllReadyH.cons rfl (fun K hK=>?_) ?_
           ·
            (try simp only [cr,cj,ch]);go_simp;refine hK.out _ _ (((eb.o.alloc _).cell 0).trans rfl) (fun ac=>?_);clear hK K;(try simp only [zl]);refine wpAnyH_ready (rs:=[6]) (by kernel_rfl) (by simp) ?_;refine AllReadyH.cons rfl (fun K hK=>?_) ?_
            ·
             obtain ⟨Ey,Ex,Ew,Ev,Eu,Et,Es⟩:=ls.o.cells5;(try simp only [cr,cj,ch]);go_simp;refine hK.out _ _ ((((eb.o.f5).alloc _).cell 0).trans rfl) (fun ac=>?_);clear hK K;(try simp only [zl]);refine wpAnyH_ready (rs:=[7]) (by kernel_rfl) (by simp) ?_;refine AllReadyH.cons rfl (fun K hK=>?_) ?_
             ·
              (try simp only [cr,cj,ch]);go_simp;refine hK.out _ _ ((((eb.o.f5).alloc _).cell 0).trans rfl) (fun ac=>?_);clear hK K;(try simp only [zl]);refine wpAnyH_done (by kernel_rfl) ?_ _;first | go_wp2_with fail | skip
              go_meet
              exact ⟨w6.heap.size,w7.heap.size,_,_,_,_,_,_,_,rfl,rfl,by omega,by omega,by omega,zh hr,zh ((bR.o.f6).alloc _),zh ((bf.o.s5).alloc _),zh ((eb.o.f5).alloc _),zh ((cQ.o.f5).alloc _),zh ((ls.o.p5).alloc _),zh (aj.new' (by simp)),zh (nk ie ((zr.set5 (iv (by omega)) _ _ _ _ _).za _) (by omega) (by first|omega|simp<;>omega)),zh (nk sd ((zr.set5 (iv (by omega)) _ _ _ _ _).za _) (by omega) (by first|omega|simp<;>omega))⟩
             exact AllReadyH.nil
            exact AllReadyH.nil
           exact AllReadyH.nil
          refine AllReadyH.cons rfl (fun K hK=>?_) ?_
          ·
           (try simp only [cr,cj,ch]);go_simp;refine hK.out _ _ ((((fe.o.alloc _).alloc _).cell 0).trans rfl) (fun ac=>?_);clear hK K;(try simp only [zl]);refine wpAnyH_ready (rs:=[3]) (by kernel_rfl) (by simp) ?_;refine AllReadyH.cons rfl (fun K hK=>?_) ?_
           ·
            (try simp only [cr,cj,ch]);go_simp
            go_at_call 98
            obtain ⟨rx,h1,hr⟩:=ag hr;refine (bL HE.o HF.o HO.o (by omega) h1 ((bC.o.alloc _).alloc _)).mono ?_;rintro e w7 hp;rcases rx with p | ⟨x7,i7,b7⟩
            ·
             obtain ⟨hb,rfl⟩:=hp;cases hr;(try go_wp2_with fail);exact ⟨rfl,((aR.o.alloc _).alloc _).trans hb mg,rfl⟩
            (try dsimp only at hr);obtain ⟨vB,rfl⟩:=zf ((bK HE.o.wt HF.o (by omega) bC.o.ilt).2 _ _ h1);obtain ⟨hb,hp,v,rfl,A7,c7,rfl,ae⟩:=hp;(try dsimp only at hp ae);have fz:=hb.size;(try simp at fz);have hw:ay (Xs E []) w6 w7:=((zb.alloc _).alloc _).trans hb xg;obtain ⟨eb,cQ,kj⟩:=fq fe cJ gR hw;have ls:=fJ w6.heap.size hb;have lr:=cW (w6.heap.size+1) hb;have ie:=n0 gm hw;have bR:=zh hp;have bf:=b0 aR hw;clear fe cJ gR gm bC aR hw;have sd:=zn (lo:=(w6.heap.size+2)) ae;clear ae hb hp h1;refine hK.out _ _ ((eb.o.cell 0).trans rfl) (fun ac=>?_);clear hK K;(try simp only [zl]);refine wpAnyH_ready (rs:=[6]) (by kernel_rfl) (by simp) ?_;refine AllReadyH.cons rfl (fun K hK=>?_) ?_
            ·
             obtain ⟨Ey,Ex,Ew,Ev,Eu,Et,Es⟩:=ls.o.cells5;(try simp only [cr,cj,ch]);go_simp;refine hK.out _ _ (((eb.o.f5).cell 0).trans rfl) (fun ac=>?_);clear hK K;(try simp only [zl]);refine wpAnyH_ready (rs:=[7]) (by kernel_rfl) (by simp) ?_;refine AllReadyH.cons rfl (fun K hK=>?_) ?_
             ·
              obtain ⟨Er,Ep,Eo,En,Em,El,Ek⟩:=lr.o.cells5;(try simp only [cr,cj,ch]);go_simp;refine hK.out _ _ ((((eb.o.f5).f5).cell 0).trans rfl) (fun ac=>?_);clear hK K;(try simp only [zl]);refine wpAnyH_done (by kernel_rfl) ?_ _;first | go_wp2_with fail | skip
              go_meet
              exact ⟨w6.heap.size,w6.heap.size+1,_,_,_,_,_,_,_,rfl,rfl,by omega,by omega,by omega,zh hr,zh ((bR.o.f6).f6),zh ((bf.o.s5).s5),zh ((eb.o.f5).f5),zh ((cQ.o.f5).f5),zh ((ls.o.p5).f5),zh ((lr.o.f5).p5),zh (nk ie ((zr.set5 (iv (by omega)) _ _ _ _ _).set5 (iv (by omega)) _ _ _ _ _) (by omega) (by first|omega|simp<;>omega)),zh (nk sd ((zr.set5 (iv (by omega)) _ _ _ _ _).set5 (iv (by omega)) _ _ _ _ _) (by omega) (by first|omega|simp<;>omega))⟩
             exact AllReadyH.nil
            exact AllReadyH.nil
           exact AllReadyH.nil
          exact AllReadyH.nil
         refine AllReadyH.cons rfl (fun K hK=>?_) ?_
         ·
          (try simp only [cr,cj,ch]);go_simp;refine hK.out _ _ (((fe.o.alloc _).cell 0).trans rfl) (fun ac=>?_);clear hK K;(try simp only [zl]);refine wpAnyH_ready (rs:=[3,4]) (by kernel_rfl) (by simp) ?_;refine AllReadyH.cons rfl (fun K hK=>?_) ?_
          ·
           (try simp only [cr,cj,ch]);go_simp
           go_at_call 98
           obtain ⟨rx,h1,hr⟩:=ag hr;refine (bL HE.o HF.o HO.o (by omega) h1 (bC.o.alloc _)).mono ?_;rintro e w7 hp;rcases rx with p | ⟨x7,i7,b7⟩
           ·
            obtain ⟨hb,rfl⟩:=hp;cases hr;(try go_wp2_with fail);exact ⟨rfl,(aR.o.alloc _).trans hb mg,rfl⟩
           (try dsimp only at hr);obtain ⟨vB,rfl⟩:=zf ((bK HE.o.wt HF.o (by omega) bC.o.ilt).2 _ _ h1);obtain ⟨hb,hp,v,rfl,A7,c7,rfl,ae⟩:=hp;(try dsimp only at hp ae);have fz:=hb.size;(try simp at fz);have hw:ay (Xs E []) w6 w7:=(zb.alloc _).trans hb xg;obtain ⟨eb,cQ,kj⟩:=fq fe cJ gR hw;have lr:=cW w6.heap.size hb;have ie:=n0 gm hw;have bR:=zh hp;have bf:=b0 aR hw;clear fe cJ gR gm bC aR hw;have sd:=zn (lo:=(w6.heap.size+1)) ae;clear ae hb hp h1;refine hK.out _ _ ((eb.o.cell 0).trans rfl) (fun ac=>?_);clear hK K;(try simp only [zl]);refine wpAnyH_ready (rs:=[4]) (by kernel_rfl) (by simp) ?_;refine AllReadyH.cons rfl (fun K hK=>?_) ?_
           ·
            (try simp only [cr,cj,ch]);go_simp;refine hK.out _ _ (((eb.o.alloc _).cell 0).trans rfl) (fun ac=>?_);clear hK K;(try simp only [zl]);refine wpAnyH_ready (rs:=[6]) (by kernel_rfl) (by simp) ?_;refine AllReadyH.cons rfl (fun K hK=>?_) ?_
            ·
             (try simp only [cr,cj,ch]);go_simp;refine hK.out _ _ (((eb.o.alloc _).cell 0).trans rfl) (fun ac=>?_);clear hK K;(try simp only [zl]);refine wpAnyH_ready (rs:=[7]) (by kernel_rfl) (by simp) ?_;refine AllReadyH.cons rfl (fun K hK=>?_) ?_
             ·
              obtain ⟨Er,Ep,Eo,En,Em,El,Ek⟩:=lr.o.cells5;(try simp only [cr,cj,ch]);go_simp;refine hK.out _ _ ((((eb.o.f5).alloc _).cell 0).trans rfl) (fun ac=>?_);clear hK K;(try simp only [zl]);refine wpAnyH_done (by kernel_rfl) ?_ _;first | go_wp2_with fail | skip
              go_meet
              exact ⟨w7.heap.size,w6.heap.size,_,_,_,_,_,_,_,rfl,rfl,by omega,by omega,by omega,zh hr,zh ((bR.o.f6).alloc _),zh ((bf.o.s5).alloc _),zh ((eb.o.f5).alloc _),zh ((cQ.o.f5).alloc _),zh (aj.new' (by simp)),zh ((lr.o.p5).alloc _),zh (nk ie ((zr.set5 (iv (by omega)) _ _ _ _ _).za _) (by omega) (by first|omega|simp<;>omega)),zh (nk sd ((zr.set5 (iv (by omega)) _ _ _ _ _).za _) (by omega) (by first|omega|simp<;>omega))⟩
             exact AllReadyH.nil
            exact AllReadyH.nil
           exact AllReadyH.nil
          refine AllReadyH.cons rfl (fun K hK=>?_) ?_
          ·
           (try simp only [cr,cj,ch]);go_simp;refine hK.out _ _ ((((fe.o.alloc _).alloc _).cell 0).trans rfl) (fun ac=>?_);clear hK K;(try simp only [zl]);refine wpAnyH_ready (rs:=[3]) (by kernel_rfl) (by simp) ?_;refine AllReadyH.cons rfl (fun K hK=>?_) ?_
           ·
            (try simp only [cr,cj,ch]);go_simp
            go_at_call 98
            obtain ⟨rx,h1,hr⟩:=ag hr;refine (bL HE.o HF.o HO.o (by omega) h1 ((bC.o.alloc _).alloc _)).mono ?_;rintro e w7 hp;rcases rx with p | ⟨x7,i7,b7⟩
            ·
             obtain ⟨hb,rfl⟩:=hp;cases hr;(try go_wp2_with fail);exact ⟨rfl,((aR.o.alloc _).alloc _).trans hb mg,rfl⟩
            (try dsimp only at hr);obtain ⟨vB,rfl⟩:=zf ((bK HE.o.wt HF.o (by omega) bC.o.ilt).2 _ _ h1);obtain ⟨hb,hp,v,rfl,A7,c7,rfl,ae⟩:=hp;(try dsimp only at hp ae);have fz:=hb.size;(try simp at fz);have hw:ay (Xs E []) w6 w7:=((zb.alloc _).alloc _).trans hb xg;obtain ⟨eb,cQ,kj⟩:=fq fe cJ gR hw;have lr:=fJ w6.heap.size hb;have ls:=cW (w6.heap.size+1) hb;have ie:=n0 gm hw;have bR:=zh hp;have bf:=b0 aR hw;clear fe cJ gR gm bC aR hw;have sd:=zn (lo:=(w6.heap.size+2)) ae;clear ae hb hp h1;refine hK.out _ _ ((eb.o.cell 0).trans rfl) (fun ac=>?_);clear hK K;(try simp only [zl]);refine wpAnyH_ready (rs:=[6]) (by kernel_rfl) (by simp) ?_;refine AllReadyH.cons rfl (fun K hK=>?_) ?_
            ·
             obtain ⟨Ey,Ex,Ew,Ev,Eu,Et,Es⟩:=ls.o.cells5;(try simp only [cr,cj,ch]);go_simp;refine hK.out _ _ (((eb.o.f5).cell 0).trans rfl) (fun ac=>?_);clear hK K;(try simp only [zl]);refine wpAnyH_ready (rs:=[7]) (by kernel_rfl) (by simp) ?_;refine AllReadyH.cons rfl (fun K hK=>?_) ?_
             ·
              obtain ⟨Er,Ep,Eo,En,Em,El,Ek⟩:=lr.o.cells5;(try simp only [cr,cj,ch]);go_simp;refine hK.out _ _ ((((eb.o.f5).f5).cell 0).trans rfl) (fun ac=>?_);clear hK K;(try simp only [zl]);refine wpAnyH_done (by kernel_rfl) ?_ _;first | go_wp2_with fail | skip
              go_meet
              exact ⟨w6.heap.size+1,w6.heap.size,_,_,_,_,_,_,_,rfl,rfl,by omega,by omega,by omega,zh hr,zh ((bR.o.f6).f6),zh ((bf.o.s5).s5),zh ((eb.o.f5).f5),zh ((cQ.o.f5).f5),zh ((ls.o.p5).f5),zh ((lr.o.f5).p5),zh (nk ie ((zr.set5 (iv (by omega)) _ _ _ _ _).set5 (iv (by omega)) _ _ _ _ _) (by omega) (by first|omega|simp<;>omega)),zh (nk sd ((zr.set5 (iv (by omega)) _ _ _ _ _).set5 (iv (by omega)) _ _ _ _ _) (by omega) (by first|omega|simp<;>omega))⟩
             exact AllReadyH.nil
            exact AllReadyH.nil
           exact AllReadyH.nil
          exact AllReadyH.nil
         exact AllReadyH.nil
        refine AllReadyH.cons rfl (fun K hK=>?_) ?_
        ·
         (try simp only [cr,cj,ch]);go_simp;refine hK.out _ _ (((fy.o.alloc _).cell 0).trans rfl) (fun ac=>?_);clear hK K;(try simp only [zl]);refine wpAnyH_ready (rs:=[1,5]) (by kernel_rfl) (by simp) ?_;refine AllReadyH.cons rfl (fun K hK=>?_) ?_
         ·
          (try simp only [cr,cj,ch]);go_simp
          go_at_call 97
          obtain ⟨rx,h1,hr⟩:=ag hr;refine (ei HE.o HF.o HO.o (by omega) h1 (bH.o.alloc _)).mono ?_;rintro e w6 hp;rcases rx with p | ⟨x6,i6,b6⟩
          ·
           obtain ⟨hb,rfl⟩:=hp;cases hr;(try go_wp2_with fail);exact ⟨rfl,(a8.o.alloc _).trans hb mg,rfl⟩
          (try dsimp only at hr);obtain ⟨xj,rfl⟩:=zf ((eD HE.o.wt HF.o (by omega) bH.o.ilt).2 _ _ h1);obtain ⟨hb,hp,v,rfl,A6,c6,rfl,ae⟩:=hp;(try dsimp only at hp ae);have iK:=hb.size;(try simp at iK);have hw:ay (Xs E []) w5 w6:=(zb.alloc _).trans hb xg;obtain ⟨fe,cJ,gR⟩:=fq fy cN jP hw;have xJ:=cW w5.heap.size hb;have bC:=zh hp;have aR:=b0 a8 hw;clear fy cN jP bH a8 hw;have gm:=zn (lo:=(w5.heap.size+1)) ae;clear ae hb hp h1;refine hK.out _ _ ((fe.o.cell 0).trans rfl) (fun ac=>?_);clear hK K;(try simp only [zl]);refine wpAnyH_ready (rs:=[3,5]) (by kernel_rfl) (by simp) ?_;refine AllReadyH.cons rfl (fun K hK=>?_) ?_
          ·
           (try simp only [cr,cj,ch]);go_simp
           go_at_call 98
           obtain ⟨rx,h1,hr⟩:=ag hr;refine (bL HE.o HF.o HO.o (by omega) h1 bC.o).mono ?_;rintro e w7 hp;rcases rx with p | ⟨x7,i7,b7⟩
           ·
            obtain ⟨hb,rfl⟩:=hp;cases hr;(try go_wp2_with fail);exact ⟨rfl,aR.o.trans hb mg,rfl⟩
           (try dsimp only at hr);obtain ⟨vB,rfl⟩:=zf ((bK HE.o.wt HF.o (by omega) bC.o.ilt).2 _ _ h1);obtain ⟨hb,hp,v,rfl,A7,c7,rfl,ae⟩:=hp;(try dsimp only at hp ae);obtain ⟨fz,hw⟩:=ez hb;obtain ⟨eb,cQ,kj,ls⟩:=jd fe cJ gR xJ hw;have ie:=n0 gm hw;have bR:=zh hp;have bf:=b0 aR hw;clear fe cJ gR xJ gm bC aR hw;have sd:=zn (lo:=w6.heap.size) ae;clear ae hb hp h1;refine hK.out _ _ ((eb.o.cell 0).trans rfl) (fun ac=>?_);clear hK K;(try simp only [zl]);refine wpAnyH_ready (rs:=[5]) (by kernel_rfl) (by simp) ?_;refine AllReadyH.cons rfl (fun K hK=>?_) ?_
           ·
            (try simp only [cr,cj,ch]);go_simp;refine hK.out _ _ (((eb.o.alloc _).cell 0).trans rfl) (fun ac=>?_);clear hK K;(try simp only [zl]);refine wpAnyH_ready (rs:=[6]) (by kernel_rfl) (by simp) ?_;refine AllReadyH.cons rfl (fun K hK=>?_) ?_
            ·
             obtain ⟨Ey,Ex,Ew,Ev,Eu,Et,Es⟩:=ls.o.cells5;(try simp only [cr,cj,ch]);go_simp;refine hK.out _ _ ((((eb.o.f5).alloc _).cell 0).trans rfl) (fun ac=>?_);clear hK K;(try simp only [zl]);refine wpAnyH_ready (rs:=[7]) (by kernel_rfl) (by simp) ?_;refine AllReadyH.cons rfl (fun K hK=>?_) ?_
             ·
              (try simp only [cr,cj,ch]);go_simp;refine hK.out _ _ ((((eb.o.f5).alloc _).cell 0).trans rfl) (fun ac=>?_);clear hK K;(try simp only [zl]);refine wpAnyH_done (by kernel_rfl) ?_ _;first | go_wp2_with fail | skip
              go_meet
              exact ⟨w5.heap.size,w7.heap.size,_,_,_,_,_,_,_,rfl,rfl,by omega,by omega,by omega,zh hr,zh ((bR.o.f6).alloc _),zh ((bf.o.s5).alloc _),zh ((eb.o.f5).alloc _),zh ((cQ.o.f5).alloc _),zh ((ls.o.p5).alloc _),zh (aj.new' (by simp)),zh (nk ie ((zr.set5 (iv (by omega)) _ _ _ _ _).za _) (by omega) (by first|omega|simp<;>omega)),zh (nk sd ((zr.set5 (iv (by omega)) _ _ _ _ _).za _) (by omega) (by first|omega|simp<;>omega))⟩
             exact AllReadyH.nil
            exact AllReadyH.nil
           exact AllReadyH.nil
          refine AllReadyH.cons rfl (fun K hK=>?_) ?_
          ·
           (try simp only [cr,cj,ch]);go_simp;refine hK.out _ _ (((fe.o.alloc _).cell 0).trans rfl) (fun ac=>?_);clear hK K;(try simp only [zl]);refine wpAnyH_ready (rs:=[3]) (by kernel_rfl) (by simp) ?_;refine AllReadyH.cons rfl (fun K hK=>?_) ?_
           ·
            (try simp only [cr,cj,ch]);go_simp
            go_at_call 98
            obtain ⟨rx,h1,hr⟩:=ag hr;refine (bL HE.o HF.o HO.o (by omega) h1 (bC.o.alloc _)).mono ?_;rintro e w7 hp;rcases rx with p | ⟨x7,i7,b7⟩
            ·
             obtain ⟨hb,rfl⟩:=hp;cases hr;(try go_wp2_with fail);exact ⟨rfl,(aR.o.alloc _).trans hb mg,rfl⟩
            (try dsimp only at hr);obtain ⟨vB,rfl⟩:=zf ((bK HE.o.wt HF.o (by omega) bC.o.ilt).2 _ _ h1);obtain ⟨hb,hp,v,rfl,A7,c7,rfl,ae⟩:=hp;(try dsimp only at hp ae);have fz:=hb.size;(try simp at fz);have hw:ay (Xs E []) w6 w7:=(zb.alloc _).trans hb xg;obtain ⟨eb,cQ,kj,ls⟩:=jd fe cJ gR xJ hw;have lr:=cW w6.heap.size hb;have ie:=n0 gm hw;have bR:=zh hp;have bf:=b0 aR hw;clear fe cJ gR xJ gm bC aR hw;have sd:=zn (lo:=(w6.heap.size+1)) ae;clear ae hb hp h1;refine hK.out _ _ ((eb.o.cell 0).trans rfl) (fun ac=>?_);clear hK K;(try simp only [zl]);refine wpAnyH_ready (rs:=[6]) (by kernel_rfl) (by simp) ?_;refine AllReadyH.cons rfl (fun K hK=>?_) ?_
            ·
             obtain ⟨Ey,Ex,Ew,Ev,Eu,Et,Es⟩:=ls.o.cells5;(try simp only [cr,cj,ch]);go_simp;refine hK.out _ _ (((eb.o.f5).cell 0).trans rfl) (fun ac=>?_);clear hK K;(try simp only [zl]);refine wpAnyH_ready (rs:=[7]) (by kernel_rfl) (by simp) ?_;refine AllReadyH.cons rfl (fun K hK=>?_) ?_
             ·
              obtain ⟨Er,Ep,Eo,En,Em,El,Ek⟩:=lr.o.cells5;(try simp only [cr,cj,ch]);go_simp;refine hK.out _ _ ((((eb.o.f5).f5).cell 0).trans rfl) (fun ac=>?_);clear hK K;(try simp only [zl]);refine wpAnyH_done (by kernel_rfl) ?_ _;first | go_wp2_with fail | skip
              go_meet
              exact ⟨w5.heap.size,w6.heap.size,_,_,_,_,_,_,_,rfl,rfl,by omega,by omega,by omega,zh hr,zh ((bR.o.f6).f6),zh ((bf.o.s5).s5),zh ((eb.o.f5).f5),zh ((cQ.o.f5).f5),zh ((ls.o.p5).f5),zh ((lr.o.f5).p5),zh (nk ie ((zr.set5 (iv (by omega)) _ _ _ _ _).set5 (iv (by omega)) _ _ _ _ _) (by omega) (by first|omega|simp<;>omega)),zh (nk sd ((zr.set5 (iv (by omega)) _ _ _ _ _).set5 (iv (by omega)) _ _ _ _ _) (by omega) (by first|omega|simp<;>omega))⟩
             exact AllReadyH.nil
            exact AllReadyH.nil
           exact AllReadyH.nil
          exact AllReadyH.nil
         refine AllReadyH.cons rfl (fun K hK=>?_) ?_
         ·
          (try simp only [cr,cj,ch]);go_simp;refine hK.out _ _ ((((fy.o.alloc _).alloc _).cell 0).trans rfl) (fun ac=>?_);clear hK K;(try simp only [zl]);refine wpAnyH_ready (rs:=[1]) (by kernel_rfl) (by simp) ?_;refine AllReadyH.cons rfl (fun K hK=>?_) ?_
          ·
           (try simp only [cr,cj,ch]);go_simp
           go_at_call 97
           obtain ⟨rx,h1,hr⟩:=ag hr;refine (ei HE.o HF.o HO.o (by omega) h1 ((bH.o.alloc _).alloc _)).mono ?_;rintro e w6 hp;rcases rx with p | ⟨x6,i6,b6⟩
           ·
            obtain ⟨hb,rfl⟩:=hp;cases hr;(try go_wp2_with fail);exact ⟨rfl,((a8.o.alloc _).alloc _).trans hb mg,rfl⟩
           (try dsimp only at hr);obtain ⟨xj,rfl⟩:=zf ((eD HE.o.wt HF.o (by omega) bH.o.ilt).2 _ _ h1);obtain ⟨hb,hp,v,rfl,A6,c6,rfl,ae⟩:=hp;(try dsimp only at hp ae);have iK:=hb.size;(try simp at iK);have hw:ay (Xs E []) w5 w6:=((zb.alloc _).alloc _).trans hb xg;obtain ⟨fe,cJ,gR⟩:=fq fy cN jP hw;have xJ:=fJ w5.heap.size hb;have xI:=cW (w5.heap.size+1) hb;have bC:=zh hp;have aR:=b0 a8 hw;clear fy cN jP bH a8 hw;have gm:=zn (lo:=(w5.heap.size+2)) ae;clear ae hb hp h1;refine hK.out _ _ ((fe.o.cell 0).trans rfl) (fun ac=>?_);clear hK K;(try simp only [zl]);refine wpAnyH_ready (rs:=[3]) (by kernel_rfl) (by simp) ?_;refine AllReadyH.cons rfl (fun K hK=>?_) ?_
           ·
            (try simp only [cr,cj,ch]);go_simp
            go_at_call 98
            obtain ⟨rx,h1,hr⟩:=ag hr;refine (bL HE.o HF.o HO.o (by omega) h1 bC.o).mono ?_;rintro e w7 hp;rcases rx with p | ⟨x7,i7,b7⟩
            ·
             obtain ⟨hb,rfl⟩:=hp;cases hr;(try go_wp2_with fail);exact ⟨rfl,aR.o.trans hb mg,rfl⟩
            (try dsimp only at hr);obtain ⟨vB,rfl⟩:=zf ((bK HE.o.wt HF.o (by omega) bC.o.ilt).2 _ _ h1);obtain ⟨hb,hp,v,rfl,A7,c7,rfl,ae⟩:=hp;(try dsimp only at hp ae);obtain ⟨fz,hw⟩:=ez hb;obtain ⟨eb,cQ,kj,ls,lr⟩:=uD fe cJ gR xJ xI hw;have ie:=n0 gm hw;have bR:=zh hp;have bf:=b0 aR hw;clear fe cJ gR xJ xI gm bC aR hw;have sd:=zn (lo:=w6.heap.size) ae;clear ae hb hp h1;refine hK.out _ _ ((eb.o.cell 0).trans rfl) (fun ac=>?_);clear hK K;(try simp only [zl]);refine wpAnyH_ready (rs:=[6]) (by kernel_rfl) (by simp) ?_;refine AllReadyH.cons rfl (fun K hK=>?_) ?_
            ·
             obtain ⟨Ey,Ex,Ew,Ev,Eu,Et,Es⟩:=ls.o.cells5;(try simp only [cr,cj,ch]);go_simp;refine hK.out _ _ (((eb.o.f5).cell 0).trans rfl) (fun ac=>?_);clear hK K;(try simp only [zl]);refine wpAnyH_ready (rs:=[7]) (by kernel_rfl) (by simp) ?_;refine AllReadyH.cons rfl (fun K hK=>?_) ?_
             ·
              obtain ⟨Er,Ep,Eo,En,Em,El,Ek⟩:=lr.o.cells5;(try simp only [cr,cj,ch]);go_simp;refine hK.out _ _ ((((eb.o.f5).f5).cell 0).trans rfl) (fun ac=>?_);clear hK K;(try simp only [zl]);refine wpAnyH_done (by kernel_rfl) ?_ _;first | go_wp2_with fail | skip
              go_meet
              exact ⟨w5.heap.size,w5.heap.size+1,_,_,_,_,_,_,_,rfl,rfl,by omega,by omega,by omega,zh hr,zh ((bR.o.f6).f6),zh ((bf.o.s5).s5),zh ((eb.o.f5).f5),zh ((cQ.o.f5).f5),zh ((ls.o.p5).f5),zh ((lr.o.f5).p5),zh (nk ie ((zr.set5 (iv (by omega)) _ _ _ _ _).set5 (iv (by omega)) _ _ _ _ _) (by omega) (by first|omega|simp<;>omega)),zh (nk sd ((zr.set5 (iv (by omega)) _ _ _ _ _).set5 (iv (by omega)) _ _ _ _ _) (by omega) (by first|omega|simp<;>omega))⟩
             exact AllReadyH.nil
            exact AllReadyH.nil
           exact AllReadyH.nil
          exact AllReadyH.nil
         exact AllReadyH.nil
        refine AllReadyH.cons rfl (fun K hK=>?_) ?_
        ·
         (try simp only [cr,cj,ch]);go_simp;refine hK.out _ _ (((fy.o.alloc _).cell 0).trans rfl) (fun ac=>?_);clear hK K;(try simp only [zl]);refine wpAnyH_ready (rs:=[1,4]) (by kernel_rfl) (by simp) ?_;refine AllReadyH.cons rfl (fun K hK=>?_) ?_
         ·
          (try simp only [cr,cj,ch]);go_simp
          go_at_call 97
          obtain ⟨rx,h1,hr⟩:=ag hr;refine (ei HE.o HF.o HO.o (by omega) h1 (bH.o.alloc _)).mono ?_;rintro e w6 hp;rcases rx with p | ⟨x6,i6,b6⟩
          ·
           obtain ⟨hb,rfl⟩:=hp;cases hr;(try go_wp2_with fail);exact ⟨rfl,(a8.o.alloc _).trans hb mg,rfl⟩
          (try dsimp only at hr);obtain ⟨xj,rfl⟩:=zf ((eD HE.o.wt HF.o (by omega) bH.o.ilt).2 _ _ h1);obtain ⟨hb,hp,v,rfl,A6,c6,rfl,ae⟩:=hp;(try dsimp only at hp ae);have iK:=hb.size;(try simp at iK);have hw:ay (Xs E []) w5 w6:=(zb.alloc _).trans hb xg;obtain ⟨fe,cJ,gR⟩:=fq fy cN jP hw;have xI:=cW w5.heap.size hb;have bC:=zh hp;have aR:=b0 a8 hw;clear fy cN jP bH a8 hw;have gm:=zn (lo:=(w5.heap.size+1)) ae;clear ae hb hp h1;refine hK.out _ _ ((fe.o.cell 0).trans rfl) (fun ac=>?_);clear hK K;(try simp only [zl]);refine wpAnyH_ready (rs:=[3,4]) (by kernel_rfl) (by simp) ?_;refine AllReadyH.cons rfl (fun K hK=>?_) ?_
          ·
           (try simp only [cr,cj,ch]);go_simp
           go_at_call 98
           obtain ⟨rx,h1,hr⟩:=ag hr;refine (bL HE.o HF.o HO.o (by omega) h1 bC.o).mono ?_;rintro e w7 hp;rcases rx with p | ⟨x7,i7,b7⟩
           ·
            obtain ⟨hb,rfl⟩:=hp;cases hr;(try go_wp2_with fail);exact ⟨rfl,aR.o.trans hb mg,rfl⟩
           (try dsimp only at hr);obtain ⟨vB,rfl⟩:=zf ((bK HE.o.wt HF.o (by omega) bC.o.ilt).2 _ _ h1);obtain ⟨hb,hp,v,rfl,A7,c7,rfl,ae⟩:=hp;(try dsimp only at hp ae);obtain ⟨fz,hw⟩:=ez hb;obtain ⟨eb,cQ,kj,lr⟩:=jd fe cJ gR xI hw;have ie:=n0 gm hw;have bR:=zh hp;have bf:=b0 aR hw;clear fe cJ gR xI gm bC aR hw;have sd:=zn (lo:=w6.heap.size) ae;clear ae hb hp h1;refine hK.out _ _ ((eb.o.cell 0).trans rfl) (fun ac=>?_);clear hK K;(try simp only [zl]);refine wpAnyH_ready (rs:=[4]) (by kernel_rfl) (by simp) ?_;refine AllReadyH.cons rfl (fun K hK=>?_) ?_
           ·
            (try simp only [cr,cj,ch]);go_simp;refine hK.out _ _ (((eb.o.alloc _).cell 0).trans rfl) (fun ac=>?_);clear hK K;(try simp only [zl]);refine wpAnyH_ready (rs:=[6]) (by kernel_rfl) (by simp) ?_;refine AllReadyH.cons rfl (fun K hK=>?_) ?_
            ·
             (try simp only [cr,cj,ch]);go_simp;refine hK.out _ _ (((eb.o.alloc _).cell 0).trans rfl) (fun ac=>?_);clear hK K;(try simp only [zl]);refine wpAnyH_ready (rs:=[7]) (by kernel_rfl) (by simp) ?_;refine AllReadyH.cons rfl (fun K hK=>?_) ?_
             ·
              obtain ⟨Er,Ep,Eo,En,Em,El,Ek⟩:=lr.o.cells5;(try simp only [cr,cj,ch]);go_simp;refine hK.out _ _ ((((eb.o.f5).alloc _).cell 0).trans rfl) (fun ac=>?_);clear hK K;(try simp only [zl]);refine wpAnyH_done (by kernel_rfl) ?_ _;first | go_wp2_with fail | skip
              go_meet
              exact ⟨w7.heap.size,w5.heap.size,_,_,_,_,_,_,_,rfl,rfl,by omega,by omega,by omega,zh hr,zh ((bR.o.f6).alloc _),zh ((bf.o.s5).alloc _),zh ((eb.o.f5).alloc _),zh ((cQ.o.f5).alloc _),zh (aj.new' (by simp)),zh ((lr.o.p5).alloc _),zh (nk ie ((zr.set5 (iv (by omega)) _ _ _ _ _).za _) (by omega) (by first|omega|simp<;>omega)),zh (nk sd ((zr.set5 (iv (by omega)) _ _ _ _ _).za _) (by omega) (by first|omega|simp<;>omega))⟩
             exact AllReadyH.nil
            exact AllReadyH.nil
           exact AllReadyH.nil
          refine AllReadyH.cons rfl (fun K hK=>?_) ?_
          ·
           (try simp only [cr,cj,ch]);go_simp;refine hK.out _ _ (((fe.o.alloc _).cell 0).trans rfl) (fun ac=>?_);clear hK K;(try simp only [zl]);refine wpAnyH_ready (rs:=[3]) (by kernel_rfl) (by simp) ?_;refine AllReadyH.cons rfl (fun K hK=>?_) ?_
           ·
            (try simp only [cr,cj,ch]);go_simp
            go_at_call 98
            obtain ⟨rx,h1,hr⟩:=ag hr;refine (bL HE.o HF.o HO.o (by omega) h1 (bC.o.alloc _)).mono ?_;rintro e w7 hp;rcases rx with p | ⟨x7,i7,b7⟩
            ·
             obtain ⟨hb,rfl⟩:=hp;cases hr;(try go_wp2_with fail);exact ⟨rfl,(aR.o.alloc _).trans hb mg,rfl⟩
            (try dsimp only at hr);obtain ⟨vB,rfl⟩:=zf ((bK HE.o.wt HF.o (by omega) bC.o.ilt).2 _ _ h1);obtain ⟨hb,hp,v,rfl,A7,c7,rfl,ae⟩:=hp;(try dsimp only at hp ae);have fz:=hb.size;(try simp at fz);have hw:ay (Xs E []) w6 w7:=(zb.alloc _).trans hb xg;obtain ⟨eb,cQ,kj,lr⟩:=jd fe cJ gR xI hw;have ls:=cW w6.heap.size hb;have ie:=n0 gm hw;have bR:=zh hp;have bf:=b0 aR hw;clear fe cJ gR xI gm bC aR hw;have sd:=zn (lo:=(w6.heap.size+1)) ae;clear ae hb hp h1;refine hK.out _ _ ((eb.o.cell 0).trans rfl) (fun ac=>?_);clear hK K;(try simp only [zl]);refine wpAnyH_ready (rs:=[6]) (by kernel_rfl) (by simp) ?_;refine AllReadyH.cons rfl (fun K hK=>?_) ?_
            ·
             obtain ⟨Ey,Ex,Ew,Ev,Eu,Et,Es⟩:=ls.o.cells5;(try simp only [cr,cj,ch]);go_simp;refine hK.out _ _ (((eb.o.f5).cell 0).trans rfl) (fun ac=>?_);clear hK K;(try simp only [zl]);refine wpAnyH_ready (rs:=[7]) (by kernel_rfl) (by simp) ?_;refine AllReadyH.cons rfl (fun K hK=>?_) ?_
             ·
              obtain ⟨Er,Ep,Eo,En,Em,El,Ek⟩:=lr.o.cells5;(try simp only [cr,cj,ch]);go_simp;refine hK.out _ _ ((((eb.o.f5).f5).cell 0).trans rfl) (fun ac=>?_);clear hK K;(try simp only [zl]);refine wpAnyH_done (by kernel_rfl) ?_ _;first | go_wp2_with fail | skip
              go_meet
              exact ⟨w6.heap.size,w5.heap.size,_,_,_,_,_,_,_,rfl,rfl,by omega,by omega,by omega,zh hr,zh ((bR.o.f6).f6),zh ((bf.o.s5).s5),zh ((eb.o.f5).f5),zh ((cQ.o.f5).f5),zh ((ls.o.p5).f5),zh ((lr.o.f5).p5),zh (nk ie ((zr.set5 (iv (by omega)) _ _ _ _ _).set5 (iv (by omega)) _ _ _ _ _) (by omega) (by first|omega|simp<;>omega)),zh (nk sd ((zr.set5 (iv (by omega)) _ _ _ _ _).set5 (iv (by omega)) _ _ _ _ _) (by omega) (by first|omega|simp<;>omega))⟩
             exact AllReadyH.nil
            exact AllReadyH.nil
           exact AllReadyH.nil
          exact AllReadyH.nil
         refine AllReadyH.cons rfl (fun K hK=>?_) ?_
         ·
          (try simp only [cr,cj,ch]);go_simp;refine hK.out _ _ ((((fy.o.alloc _).alloc _).cell 0).trans rfl) (fun ac=>?_);clear hK K;(try simp only [zl]);refine wpAnyH_ready (rs:=[1]) (by kernel_rfl) (by simp) ?_;refine AllReadyH.cons rfl (fun K hK=>?_) ?_
          ·
           (try simp only [cr,cj,ch]);go_simp
           go_at_call 97
           obtain ⟨rx,h1,hr⟩:=ag hr;refine (ei HE.o HF.o HO.o (by omega) h1 ((bH.o.alloc _).alloc _)).mono ?_;rintro e w6 hp;rcases rx with p | ⟨x6,i6,b6⟩
           ·
            obtain ⟨hb,rfl⟩:=hp;cases hr;(try go_wp2_with fail);exact ⟨rfl,((a8.o.alloc _).alloc _).trans hb mg,rfl⟩
           (try dsimp only at hr);obtain ⟨xj,rfl⟩:=zf ((eD HE.o.wt HF.o (by omega) bH.o.ilt).2 _ _ h1);obtain ⟨hb,hp,v,rfl,A6,c6,rfl,ae⟩:=hp;(try dsimp only at hp ae);have iK:=hb.size;(try simp at iK);have hw:ay (Xs E []) w5 w6:=((zb.alloc _).alloc _).trans hb xg;obtain ⟨fe,cJ,gR⟩:=fq fy cN jP hw;have xI:=fJ w5.heap.size hb;have xJ:=cW (w5.heap.size+1) hb;have bC:=zh hp;have aR:=b0 a8 hw;clear fy cN jP bH a8 hw;have gm:=zn (lo:=(w5.heap.size+2)) ae;clear ae hb hp h1;refine hK.out _ _ ((fe.o.cell 0).trans rfl) (fun ac=>?_);clear hK K;(try simp only [zl]);refine wpAnyH_ready (rs:=[3]) (by kernel_rfl) (by simp) ?_;refine AllReadyH.cons rfl (fun K hK=>?_) ?_
           ·
            (try simp only [cr,cj,ch]);go_simp
            go_at_call 98
            obtain ⟨rx,h1,hr⟩:=ag hr;refine (bL HE.o HF.o HO.o (by omega) h1 bC.o).mono ?_;rintro e w7 hp;rcases rx with p | ⟨x7,i7,b7⟩
            ·
             obtain ⟨hb,rfl⟩:=hp;cases hr;(try go_wp2_with fail);exact ⟨rfl,aR.o.trans hb mg,rfl⟩
            (try dsimp only at hr);obtain ⟨vB,rfl⟩:=zf ((bK HE.o.wt HF.o (by omega) bC.o.ilt).2 _ _ h1);obtain ⟨hb,hp,v,rfl,A7,c7,rfl,ae⟩:=hp;(try dsimp only at hp ae);obtain ⟨fz,hw⟩:=ez hb;obtain ⟨eb,cQ,kj,lr,ls⟩:=uD fe cJ gR xI xJ hw;have ie:=n0 gm hw;have bR:=zh hp;have bf:=b0 aR hw;clear fe cJ gR xI xJ gm bC aR hw;have sd:=zn (lo:=w6.heap.size) ae;clear ae hb hp h1;refine hK.out _ _ ((eb.o.cell 0).trans rfl) (fun ac=>?_);clear hK K;(try simp only [zl]);refine wpAnyH_ready (rs:=[6]) (by kernel_rfl) (by simp) ?_;refine AllReadyH.cons rfl (fun K hK=>?_) ?_
            ·
             obtain ⟨Ey,Ex,Ew,Ev,Eu,Et,Es⟩:=ls.o.cells5;(try simp only [cr,cj,ch]);go_simp;refine hK.out _ _ (((eb.o.f5).cell 0).trans rfl) (fun ac=>?_);clear hK K;(try simp only [zl]);refine wpAnyH_ready (rs:=[7]) (by kernel_rfl) (by simp) ?_;refine AllReadyH.cons rfl (fun K hK=>?_) ?_
             ·
              obtain ⟨Er,Ep,Eo,En,Em,El,Ek⟩:=lr.o.cells5;(try simp only [cr,cj,ch]);go_simp;refine hK.out _ _ ((((eb.o.f5).f5).cell 0).trans rfl) (fun ac=>?_);clear hK K;(try simp only [zl]);refine wpAnyH_done (by kernel_rfl) ?_ _;first | go_wp2_with fail | skip
              go_meet
              exact ⟨w5.heap.size+1,w5.heap.size,_,_,_,_,_,_,_,rfl,rfl,by omega,by omega,by omega,zh hr,zh ((bR.o.f6).f6),zh ((bf.o.s5).s5),zh ((eb.o.f5).f5),zh ((cQ.o.f5).f5),zh ((ls.o.p5).f5),zh ((lr.o.f5).p5),zh (nk ie ((zr.set5 (iv (by omega)) _ _ _ _ _).set5 (iv (by omega)) _ _ _ _ _) (by omega) (by first|omega|simp<;>omega)),zh (nk sd ((zr.set5 (iv (by omega)) _ _ _ _ _).set5 (iv (by omega)) _ _ _ _ _) (by omega) (by first|omega|simp<;>omega))⟩
             exact AllReadyH.nil
            exact AllReadyH.nil
           exact AllReadyH.nil
          exact AllReadyH.nil
         exact AllReadyH.nil
        exact AllReadyH.nil
       case rest=>
        clear bg bi bh fC cS um bM bu;obtain ⟨g6,g7,i2,xa,Aa,ca,xb,Ab,cb,rfl,rfl,sC,iK,fz,HR,r6,sn,Hs,yz,X3,X1,Le,PE⟩:=hcut
        rename World=>wr
        have hr:=HR.o;clear HR;have hg6:=X3.o.lt;have hg7:=X1.o.lt;obtain ⟨bg,bi,bh⟩:=Hs.o.c1;go_wp2_with fail;obtain ⟨rx,h1,hr⟩:=ag hr;refine (ej HE.o HF.o HO.o (by omega) h1 r6.o).mono ?_;rintro e w5 hp;rcases rx with p | ⟨x5,i5,b5⟩
        ·
         obtain ⟨hb,rfl⟩:=hp;cases hr;(try go_wp2_with fail);exact ⟨rfl,sn.o.trans hb mg,rfl⟩
        (try dsimp only at hr);obtain ⟨O0,rfl⟩:=zf ((dH HE.o.wt HF.o (by omega) r6.o.ilt).2 _ _ h1);obtain ⟨hb,hp,v,rfl,A5,c5,rfl,ae⟩:=hp;(try dsimp only at hp ae);obtain ⟨jY,hw⟩:=ez hb;obtain ⟨fy,cN,AL,X2⟩:=jd Hs yz X3 X1 hw;have pX:=n0 Le hw;have J8:=n0 PE hw;have bH:=zh hp;have a8:=b0 sn hw;clear bg bi bh Hs yz X3 X1 Le PE r6 sn hw;have NH:Hd (bG w5 (Iv wr.heap.size w5.heap.size) x5 [.int .i64 x5.k,.int .i64 x5.fr,.int .i64 x5.to,.string x5.tx,.slice A5 x5.ks.length c5]):=zh (bG.mk_ (n:=x5) (ae.keep zr fun k hk=>⟨by have h1:=hk.1;(try simp at h1);omega,hk.2⟩));clear ae hb hp h1;obtain ⟨bg,bi,bh⟩:=fy.o.c1;obtain ⟨nb,rF,rE,gq3,gq4,na,m_⟩:=AL.o.cells5;obtain ⟨WG,hq1,xZ,hq3,hq4,hqf,hql⟩:=X2.o.cells5;go_wp2_with fail;refine kT (E:=E) (ak HE.o ((bH.o.alloc _).alloc _) (by omega)) ?_;intro w6 hb hx iK hw;obtain ⟨fe,cJ,AK,Kh6⟩:=jd fy cN AL X2 hw;have Kz6:=fJ w5.heap.size hx;have wC:=cW (w5.heap.size+1) hx;have gm:=n0 pX hw;have QJ:=n0 J8 hw;have XC:=n0 NH hw;have bC:=kG bH hb;have aR:=b0 a8 hw
        clear bg bi bh nb rF rE gq3 gq4 na m_ WG hq1 xZ hq3 hq4 hqf hql fy cN AL X2 pX J8 NH bH a8 hw hb hx;obtain ⟨di,dh,de,dd,dc,db,da⟩:=cJ.o.cells5;go_wp2_with fail;obtain rfl:=a6 hr;exact am (r:=w.heap.size+1) results87 (by rfl) cJ.o.p5 (by rfl) ⟨aR.o.s5,bC.o.f6,_,rfl,_,_,rfl,aJ (n:=3) wC.o.f5 (aC.cons_ (zv (E:=E) gm) (aC.cons_ (zv (E:=E) QJ) (aC.one (zv (E:=E) XC)))) rfl (by decide) (⟨by omega,by simp <;> omega⟩)⟩
      ·
       replace hq:=Bool.eq_false_iff.2 hq;replace hr:=aN hr hq;(try rw [if_neg Bool.false_ne_true] at hr);refine eO (E:=E) (qH [⟨#[102,117,110,99]⟩] HE bD hq) ?_;intro w4 hb hx iV hw;obtain ⟨fC,cS,um⟩:=fq eQ cC E' hw;have bM:=dX bD hb;have bu:=b0 be hw;clear bg bi bh eQ cC E' bD be hw hb hx hq;obtain ⟨bg,bi,bh⟩:=fC.o.c1;go_wp2_with fail;replace hr:=cZ hr;refine eO (E:=E) (bm (l:=[⟨#[91]⟩]) HE.o (bM.o.alloc _) (aW (n:=w4.heap.size) [⟨#[91]⟩] (by simp) (by simp)) (ba (by simp))) ?_;intro w5 hb hx jY hw;obtain ⟨fy,cN,jP⟩:=fq fC cS um hw;have bH:=dX bM hb;have a8:=b0 bu hw;clear bg bi bh fC cS um bM bu hw hb hx;by_cases hq:oneOf (E.tok i) [⟨#[91]⟩]=true
       ·
        rw [hq];(try rw [if_pos hq] at hr);clear hq;obtain ⟨bg,bi,bh⟩:=fy.o.c1;go_wp2_with fail;obtain ⟨rx,h1,hr⟩:=ag hr;refine (jI HE.o HF.o HO.o (by omega) h1 bH.o).mono ?_;rintro e w6 hp;rcases rx with p | ⟨x6,i6,b6⟩
        ·
         obtain ⟨hb,rfl⟩:=hp;cases hr;(try go_wp2_with fail);exact ⟨rfl,a8.o.trans hb mg,rfl⟩
        (try dsimp only at hr);obtain ⟨xj,rfl⟩:=zf ((gS HE.o.wt HF.o (by omega) bH.o.ilt).2 _ _ h1);obtain ⟨hb,hp,v,rfl,A6,c6,rfl,ae⟩:=hp;(try dsimp only at hp ae);obtain ⟨iK,hw⟩:=ez hb;obtain ⟨fe,cJ,gR⟩:=fq fy cN jP hw;have bC:=zh hp;have aR:=b0 a8 hw;clear bg bi bh fy cN jP bH a8 hw;have gm:=zn (lo:=w5.heap.size) ae;clear ae hb hp h1;obtain ⟨bg,bi,bh⟩:=fe.o.c1;go_wp2_with fail;refine (iz HE.o HF.o HO.o (by omega) (zz (by first | omega | (simp;done) | (simp;omega)) (by omega)) (gm.o.keep (zr.za _) fun _ h=>h) hr (bC.o.alloc _)).mono ?_;rintro e w7 hp;rcases r with p | ⟨x,i2,b2⟩
        ·
         obtain ⟨hb,rfl⟩:=hp;go_wp2_with fail;exact ⟨rfl,(aR.o.alloc _).trans hb mg,rfl⟩
        obtain ⟨hb,hp,v,rfl,A2,c2,rfl,ae⟩:=hp;(try dsimp only at hp ae);have fz:=hb.size;(try simp at fz);have hw:ay (Xs E []) w6 w7:=(zb.alloc _).trans hb xg;obtain ⟨eb,cQ,kj⟩:=fq fe cJ gR hw;have pB:=cW w6.heap.size hb;have ie:=n0 gm hw;have bR:=zh hp;have bf:=b0 aR hw;clear bg bi bh fe cJ gR gm bC aR hw;have ie:Hd (aQ w7 (Iv (w.heap.size+2) w7.heap.size) (.slice A2 x.ks.length c2) x.ks):=zh (ae.keep zr fun k hk=>(by rcases hk with ⟨h1,h2⟩ | ⟨h1,h2⟩;exact ⟨by omega,by omega⟩;exact ⟨by (try simp at h1);omega,h2⟩));obtain ⟨di,dh,de,dd,dc,db,da⟩:=cQ.o.cells5;go_wp2_with fail;exact am (r:=w.heap.size+1) results87 (by rfl) cQ.o.p5 (by rfl) ⟨bf.o.s5,bR.o.f6,_,rfl,_,_,rfl,(zw ie)⟩
       ·
        replace hq:=Bool.eq_false_iff.2 hq;rw [hq];(try rw [if_neg (Bool.eq_false_iff.1 hq)] at hr);clear hq;obtain ⟨bg,bi,bh⟩:=fy.o.c1;go_wp2_with fail;replace hr:=d_ hr;refine (cI HE.o bH.o).mono ?_;rintro e wz ⟨rfl,hb⟩;subst hr;go_wp2_with fail;exact ⟨rfl,a8.o.then_ hb,rfl⟩
end
set_option maxRecDepth 100000
set_option maxHeartbeats 4000000
theorem bV {α β γ:Type} (x:PM α) (f:α→PM β) (g:β→PM γ):(x >>= f) >>= g=x >>= fun a=>f a >>= g:=by
  funext s
  rw [bind_def,bind_def,bind_def];cases x s with
  | none=>rfl
  | some r=>cases r <;> rfl
theorem I0 {α β:Type} {c:Prop} [Decidable c] (x y:PM α) (f:α→PM β):(if c then x else y) >>= f=if c then x >>= f else y >>= f:=by split <;> rfl
theorem uy {α β:Type} (a:α) (f:α→PM β):(pure a:PM α) >>= f=f a:=rfl
theorem yU (ts:List Tk) (G:Gr) (f:Nat) (x:No):cw ts G (f+1) x=(do
    let q ← bc ts [⟨#[46]⟩]
    if q=true then do
      let q ← bc ts [⟨#[40]⟩]
      if q=true then do
        let t ← G.typ
        let _ ← cE ts ⟨#[41]⟩
        let y ← bd ts 50 x.fr ⟨#[]⟩ [x,t]
        cw ts G f y
      else do
        let m ← dp ts
        let y ← bd ts 41 x.fr ⟨#[]⟩ [x,m]
        cw ts G f y
    else do
    let q ← bc ts [⟨#[91]⟩]
    if q=true then do
      let l ← fP false (fp ts ⟨#[93]⟩ 1 (plain (sN ts G)) (ts.length+1) () [])
      let _ ← cE ts ⟨#[93]⟩
      let y ← bd ts 49 x.fr ⟨#[]⟩ (x :: l.1)
      cw ts G f y
    else do
    let q ← bc ts [⟨#[40]⟩]
    if q=true then do
      let y ← li ts G x
      cw ts G f y
    else pure x):=by
  rw [cw];unfold eI;simp only [bV,I0,uy,if_true,Bool.false_eq_true,if_false]
section
variable {E:Env} {G:Gr} {lo:Nat} {w:World} {i:Nat} {b:Bool}
theorem Q1 {S:Nat→Prop} {lo hi n m g:Nat} (hS:∀ k,S k→k<m∧k≠g) (h1:hi≤n) (h2:m≤n) (h3:g<lo):∀ k,SV S lo hi k→k<n∧k≠g:=fun k hk=>by
  rcases hk with h | ⟨h4,h5⟩
  · have:=hS k h
    exact ⟨by omega,this.2⟩
  · exact ⟨by omega,by omega⟩
theorem sJ (args:Array Value) (w:World):(callFunc 118 args).run prog w = .ok (.enter 118 args) w:=by kernel_rfl
theorem EJ (args:Array Value) (w:World):(callFunc 119 args).run prog w = .ok (.enter 119 args) w:=by kernel_rfl
theorem Mt (hE:eH E) (hF:GF E.ts G lo) (hO:OkG E G):One E eh (fun (_:Unit) _=>True) (plain (sN E.ts G)) 119 #[(.pointer (some ⟨E.g,0,none⟩))] (lo+1) where
  call _ _ _ _ _ dA cq _ hr:=qm (fun _ h=>yt hE hF hO dA h cq) hr
  fine _ _ _ dA hi:=fm (rR hE.wt hF (by omega) hi)
  same _ _ _ _ _:=trivial
  notg e:=e.elim
  ent w:=EJ _ w
theorem om (hE:eH E) (hF:GF E.ts G lo) (hO:OkG E G) (dA:lo≤i) (wN:1≤i) {t:No} {cs:List Value} {S:Nat→Prop} (hS:∀ k,S k→k<w.heap.size∧k≠E.g) (ht:bG w S t cs) {r:Except Int (No×Ps)} (hr:eT E.ts G t (i,b)=some r) (h:PS E w i b) :
    Calls prog 86 #[(.pointer (some ⟨E.g,0,none⟩)),.agg cs.toArray] w (cV E eh w (Hl S w) r):=by
  obtain ⟨A0,c0,rfl,-⟩:=ht.forms;have fU:=h.glt;have ic:=h.lt;have iS:=hE.len;have eY:=h.ilt;have HP:=zh h;have HE:=zh hE;have HF:=zh hF;have HO:=zh hO;have HS:=zh hS;have Mz:Hd (bG w (SV S w.heap.size w.heap.size) t [.int .i64 t.k,.int .i64 t.fr,.int .i64 t.to,.string t.tx,.slice A0 t.ks.length c0]):=zh (ht.keep zr fun k h=>.inl h);have cT:Hd (ay (fun k=>gX E k) w w):=zh zb;clear h hE hF hO hS ht;have iM:=aO;have iT:=aU;have jf:=aT;have iL:=aS;go_enter func86,ntmps86;unfold eT at hr;go_wp2_with fail
  go_loopg [] (E.ts.length+1) (fun m wr=>∃ (f i':Nat) (x:No) (A:Option Addr) (c:Nat),m=f∧lo≤i'∧1≤i'∧Hd (cw E.ts G f x (i',b)=some r)∧Hd (PS E wr i' b)∧Hd (ay (fun k=>gX E k) w wr)∧Hd (aj wr w.heap.size 49 #[(.pointer (some ⟨E.g,0,none⟩))])∧Hd (aj wr (w.heap.size+1) 25 #[.int .i64 x.k,.int .i64 x.fr,.int .i64 x.to,.string x.tx,.slice A x.ks.length c])∧Hd (aj wr (w.heap.size+2) 25 #[.int .i64 0,.int .i64 0,.int .i64 0,.string ⟨#[]⟩,.slice none 0 0])∧Hd (bG wr (SV S (w.heap.size+3) wr.heap.size) x [.int .i64 x.k,.int .i64 x.fr,.int .i64 x.to,.string x.tx,.slice A x.ks.length c]))
  case atStart=>exact ⟨E.ts.length+1,i,t,A0,c0,rfl,dA,wN,hr,(((HP.o.alloc _).alloc _).alloc _),(((cT.o.alloc _).alloc _).alloc _),(((aj.new' (by simp)).alloc _).alloc _),((aj.new' (by simp)).alloc _),(aj.new' (by simp)),(Mz.o.keep ((((aI.refl (SV S w.heap.size w.heap.size) w).alloc (fun k hk=>by rcases hk with h1 | ⟨h1,h2⟩;(have h3:=HS.o _ h1;first | omega | (simp;omega));(first | omega | (simp;omega))) _).alloc (fun k hk=>by rcases hk with h1 | ⟨h1,h2⟩;(have h3:=HS.o _ h1;first | omega | (simp;omega));(first | omega | (simp;omega))) _).alloc (fun k hk=>by rcases hk with h1 | ⟨h1,h2⟩;(have h3:=HS.o _ h1;first | omega | (simp;omega));(first | omega | (simp;omega))) _) fun k hk=>by rcases hk with h1 | ⟨h1,h2⟩;exact .inl h1;exact .inr ⟨by omega,by first | omega | (simp;omega)⟩)⟩
  case round=>
   obtain ⟨f,i',x,A,c,rfl,D8,W_,HR,r6,sn,Hs,E7,yz,Le⟩:=hrel;cases gk with
   | zero=>exact absurd HR.o (by simp [cw])
   | succ f=>
    have hr:=HR.o;rw [yU] at hr;clear HR;have sB:=r6.o.ilt;have LN:=yz.o.lt;obtain ⟨bg,bi,bh⟩:=Hs.o.c1;go_wp2_with fail;by_cases hq:oneOf (E.tok i') [⟨#[46]⟩]=true
    ·
     replace hr:=aM hr hq;(try rw [if_pos rfl] at hr);refine qd (qG [⟨#[46]⟩] HE r6 hq) ?_;intro w1 hp hb hx et hw;obtain ⟨d5,uk,cM⟩:=fq Hs E7 yz hw;have uK:Hd (bG w1 (SV S (w.heap.size+3) wr.heap.size) x [.int .i64 x.k,.int .i64 x.fr,.int .i64 x.to,.string x.tx,.slice A x.ks.length c]):=zh (Le.o.keep (cP hw (fun k hk=>by rcases hk with h1 | ⟨h1,h2⟩;(have h3:=HS.o _ h1;omega);omega) (fun k h1 e=>by rcases h1 with h1 | ⟨h1,h2⟩;(have h3:=HS.o _ h1;rcases e with e | e;omega;(try simp at e) <;> omega);(rcases e with e | e;omega;(try simp at e) <;> omega))) fun _ h=>h);have bp:=zh hp;have a7:=b0 sn hw;clear bg bi bh Hs E7 yz Le r6 sn hw hb hx hp hq;obtain ⟨bg,bi,bh⟩:=d5.o.c1;go_wp2_with fail;by_cases hq:oneOf (E.tok (i'+1)) [⟨#[40]⟩]=true
     ·
      replace hr:=aM hr hq;(try rw [if_pos rfl] at hr);refine qd (qG [⟨#[40]⟩] HE bp hq) ?_;intro w2 hp hb hx ep hw;obtain ⟨dU,nT,bO⟩:=fq d5 uk cM hw;have qx:Hd (bG w2 (SV S (w.heap.size+3) wr.heap.size) x [.int .i64 x.k,.int .i64 x.fr,.int .i64 x.to,.string x.tx,.slice A x.ks.length c]):=zh (uK.o.keep (cP hw (fun k hk=>by rcases hk with h1 | ⟨h1,h2⟩;(have h3:=HS.o _ h1;omega);omega) (fun k h1 e=>by rcases h1 with h1 | ⟨h1,h2⟩;(have h3:=HS.o _ h1;rcases e with e | e;omega;(try simp at e) <;> omega);(rcases e with e | e;omega;(try simp at e) <;> omega))) fun _ h=>h);have bn:=zh hp;have aE:=b0 a7 hw;clear bg bi bh d5 uk cM uK bp a7 hw hb hx hp hq;obtain ⟨bg,bi,bh⟩:=dU.o.c1;go_wp2_with fail;obtain ⟨rx,h1,hr⟩:=ag hr;refine (HO.o.typ h1 bn.o).mono ?_;rintro e w3 hp;rcases rx with p | ⟨x3,i3,b3⟩
      ·
       obtain ⟨hb,rfl⟩:=hp;cases hr;(try go_wp2_with fail);exact ⟨rfl,aE.o.trans hb mg,rfl⟩
      (try dsimp only at hr);obtain ⟨RJ,rfl⟩:=zf ((HF.o.typ _ _ (by omega) bn.o.ilt).2 _ _ h1);obtain ⟨hb,hp,v,rfl,A3,c3,rfl,ae⟩:=hp;(try dsimp only at hp ae);obtain ⟨fK,hw⟩:=ez hb;obtain ⟨eQ,oT,cC⟩:=fq dU nT bO hw;have po:Hd (bG w3 (SV S (w.heap.size+3) wr.heap.size) x [.int .i64 x.k,.int .i64 x.fr,.int .i64 x.to,.string x.tx,.slice A x.ks.length c]):=zh (qx.o.keep (cP hw (fun k hk=>by rcases hk with h1 | ⟨h1,h2⟩;(have h3:=HS.o _ h1;omega);omega) (fun k h1 e=>by rcases h1 with h1 | ⟨h1,h2⟩;(have h3:=HS.o _ h1;rcases e with e | e;omega;(try simp at e) <;> omega);(rcases e with e | e;omega;(try simp at e) <;> omega))) fun _ h=>h);have bD:=zh hp;have be:=b0 aE hw;clear bg bi bh dU nT bO qx bn aE hw;have NL:=zn (lo:=w2.heap.size) ae;clear ae hb hp h1;obtain ⟨bg,bi,bh⟩:=eQ.o.c1;go_wp2_with fail;by_cases hq:oneOf (E.tok i3) [⟨#[41]⟩]=true
      case neg=>
       replace hq:=Bool.eq_false_iff.2 hq;replace hr:=aZ hr hq;subst hr;refine (ci (x:=⟨#[41]⟩) HE.o (bD.o.alloc _) hq).mono ?_;rintro e wz ⟨rfl,hb⟩;go_wp2_with fail;exact ⟨rfl,(be.o.alloc _).then_ hb,rfl⟩
      case pos=>
       replace hr:=aY hr hq;refine (bI (x:=⟨#[41]⟩) HE.o (bD.o.alloc _) hq).mono ?_;rintro e w4 ⟨rfl,hp,hb⟩;simp only [cu];obtain ⟨hx,iV,hw⟩:=Gh (E:=E) hb;obtain ⟨fC,pA,cS⟩:=fq eQ oT cC hw;have um:=cW w3.heap.size hx;have se:Hd (bG w4 (SV S (w.heap.size+3) wr.heap.size) x [.int .i64 x.k,.int .i64 x.fr,.int .i64 x.to,.string x.tx,.slice A x.ks.length c]):=zh (po.o.keep (cP hw (fun k hk=>by rcases hk with h1 | ⟨h1,h2⟩;(have h3:=HS.o _ h1;omega);omega) (fun k h1 e=>by rcases h1 with h1 | ⟨h1,h2⟩;(have h3:=HS.o _ h1;rcases e with e | e;omega;(try simp at e) <;> omega);(rcases e with e | e;omega;(try simp at e) <;> omega))) fun _ h=>h);have pZ:=n0 NL hw;have bM:=zh hp;have bu:=b0 be hw;clear bg bi bh eQ oT cC po NL bD be hw hb hx hp hq;obtain ⟨bg,bi,bh⟩:=fC.o.c1;obtain ⟨nM,nL,nK,nJ,nI,nH,nG⟩:=pA.o.cells5;obtain ⟨nC,nB,nA,nz,qQ,ny,nx⟩:=um.o.cells5;go_wp2_with fail;replace hr:=bv hr;refine eO (E:=E) (ak HE.o (bM.o.alloc _) (by omega)) ?_;intro w5 hb hx jY hw;obtain ⟨fy,ww,cN,jP⟩:=jd fC pA cS um hw;have nq:=cW w4.heap.size hx
       have pX:Hd (bG w5 (SV S (w.heap.size+3) wr.heap.size) x [.int .i64 x.k,.int .i64 x.fr,.int .i64 x.to,.string x.tx,.slice A x.ks.length c]):=zh (se.o.keep (cP hw (fun k hk=>by rcases hk with h1 | ⟨h1,h2⟩;(have h3:=HS.o _ h1;omega);omega) (fun k h1 e=>by rcases h1 with h1 | ⟨h1,h2⟩;(have h3:=HS.o _ h1;rcases e with e | e;omega;(try simp at e) <;> omega);(rcases e with e | e;omega;(try simp at e) <;> omega))) fun _ h=>h);have qy:=n0 pZ hw;have bH:=dX bM hb;have a8:=b0 bu hw;clear bg bi bh nM nL nK nJ nI nH nG nC nB nA nz qQ ny nx fC pA cS um se pZ bM bu hw hb hx;obtain ⟨nM,nL,nK,nJ,nI,nH,nG⟩:=ww.o.cells5;go_wp2_with fail
       go_roundg f
       case measure=>omega
       case rel=>exact ⟨f,i3+1,_,(some ⟨w4.heap.size,0,none⟩),2,rfl,by omega,by omega,zh hr,zh bH.o.f6,zh a8.o.s5,zh fy.o.f5,zh ww.o.p5,zh cN.o.f5,zh (bG.mk_ (n:=.mk 50 x.fr (E.tok (i3+1 - 1)).to ⟨#[]⟩ [x,x3]) (aJ (n:=2) nq.o.f5 (aC.cons_ (pX.o.keep ((aI.refl (SV S (w.heap.size+3) wr.heap.size) w5).set5 (by intro hk;rcases hk with h1 | ⟨h1,h2⟩;(have h3:=HS.o _ h1;omega);omega) _ _ _ _ _) fun k hk=>by rcases hk with h1 | ⟨h1,h2⟩;exact .inl h1;exact .inr ⟨by omega,by first | omega | (simp;omega)⟩) (aC.one (qy.o.keep (zr.set5 (iv (by omega)) _ _ _ _ _) fun k hk=>.inr ⟨by have h1:=hk.1;omega,by have h2:=hk.2;first | omega | (simp;omega)⟩))) rfl (by decide) (.inr ⟨by omega,by first | omega | (simp;done) | (simp;omega)⟩)))⟩
     ·
      replace hq:=Bool.eq_false_iff.2 hq;replace hr:=aN hr hq;(try rw [if_neg Bool.false_ne_true] at hr);refine eO (E:=E) (qH [⟨#[40]⟩] HE bp hq) ?_;intro w2 hb hx ep hw;obtain ⟨dU,nT,bO⟩:=fq d5 uk cM hw;have qx:Hd (bG w2 (SV S (w.heap.size+3) wr.heap.size) x [.int .i64 x.k,.int .i64 x.fr,.int .i64 x.to,.string x.tx,.slice A x.ks.length c]):=zh (uK.o.keep (cP hw (fun k hk=>by rcases hk with h1 | ⟨h1,h2⟩;(have h3:=HS.o _ h1;omega);omega) (fun k h1 e=>by rcases h1 with h1 | ⟨h1,h2⟩;(have h3:=HS.o _ h1;rcases e with e | e;omega;(try simp at e) <;> omega);(rcases e with e | e;omega;(try simp at e) <;> omega))) fun _ h=>h);have bn:=dX bp hb;have aE:=b0 a7 hw;clear bg bi bh d5 uk cM uK bp a7 hw hb hx hq;obtain ⟨bg,bi,bh⟩:=dU.o.c1;go_wp2_with fail;by_cases hq:(E.tok (i'+1)).k=1
      case neg=>
       replace hr:=bY hr hq;subst hr;refine (dV HE.o bn.o hq).mono ?_;rintro e wz ⟨rfl,hb⟩;go_wp2_with fail;exact ⟨rfl,aE.o.then_ hb,rfl⟩
      case pos=>
       replace hr:=bX hr hq;refine xP (dn HE.o bn.o hq) ?_;intro w3 hp hb hx fK hw;obtain ⟨eQ,oT,cC⟩:=fq dU nT bO hw;have po:Hd (bG w3 (SV S (w.heap.size+3) wr.heap.size) x [.int .i64 x.k,.int .i64 x.fr,.int .i64 x.to,.string x.tx,.slice A x.ks.length c]):=zh (qx.o.keep (cP hw (fun k hk=>by rcases hk with h1 | ⟨h1,h2⟩;(have h3:=HS.o _ h1;omega);omega) (fun k h1 e=>by rcases h1 with h1 | ⟨h1,h2⟩;(have h3:=HS.o _ h1;rcases e with e | e;omega;(try simp at e) <;> omega);(rcases e with e | e;omega;(try simp at e) <;> omega))) fun _ h=>h);have bD:=zh hp;have be:=b0 aE hw;clear bg bi bh dU nT bO qx bn aE hw hb hx hp;have Td:=nN w3 (E.tok (i'+1));clear hq;obtain ⟨bg,bi,bh⟩:=eQ.o.c1;obtain ⟨nM,nL,nK,nJ,nI,nH,nG⟩:=oT.o.cells5;go_wp2_with fail;replace hr:=bv hr;refine kT (E:=E) (ak HE.o ((bD.o.alloc _).alloc _) (by omega)) ?_;intro w4 hb hx iV hw;obtain ⟨fC,pA,cS⟩:=fq eQ oT cC hw;have Km4:=fJ w3.heap.size hx;have KE:=cW (w3.heap.size+1) hx
       have se:Hd (bG w4 (SV S (w.heap.size+3) wr.heap.size) x [.int .i64 x.k,.int .i64 x.fr,.int .i64 x.to,.string x.tx,.slice A x.ks.length c]):=zh (po.o.keep (cP hw (fun k hk=>by rcases hk with h1 | ⟨h1,h2⟩;(have h3:=HS.o _ h1;omega);omega) (fun k h1 e=>by rcases h1 with h1 | ⟨h1,h2⟩;(have h3:=HS.o _ h1;rcases e with e | e;omega;(try simp at e) <;> omega);(rcases e with e | e;omega;(try simp at e) <;> omega))) fun _ h=>h);have XQ:=n0 Td hw;have bM:=kG bD hb;have bu:=b0 be hw;clear bg bi bh nM nL nK nJ nI nH nG eQ oT cC po Td bD be hw hb hx;obtain ⟨nM,nL,nK,nJ,nI,nH,nG⟩:=pA.o.cells5;go_wp2_with fail
       go_roundg f
       case measure=>omega
       case rel=>exact ⟨f,i'+1+1,_,(some ⟨w3.heap.size+1,0,none⟩),2,rfl,by omega,by omega,zh hr,zh bM.o.f6,zh bu.o.s5,zh fC.o.f5,zh pA.o.p5,zh cS.o.f5,zh (bG.mk_ (n:=.mk 41 x.fr (E.tok (i'+1+1 - 1)).to ⟨#[]⟩ [x,.mk 40 (E.tok (i'+1)).fr (E.tok (i'+1)).to (E.tok (i'+1)).tx []]) (aJ (n:=2) KE.o.f5 (aC.cons_ (se.o.keep ((aI.refl (SV S (w.heap.size+3) wr.heap.size) w4).set5 (by intro hk;rcases hk with h1 | ⟨h1,h2⟩;(have h3:=HS.o _ h1;omega);omega) _ _ _ _ _) fun k hk=>by rcases hk with h1 | ⟨h1,h2⟩;exact .inl h1;exact .inr ⟨by omega,by first | omega | (simp;omega)⟩) (aC.one (XQ.o.keep (zr.set5 (iv (by omega)) _ _ _ _ _) fun k hk=>.inr ⟨by have h1:=hk.1;omega,by have h2:=hk.2;first | omega | (simp;omega)⟩))) rfl (by decide) (.inr ⟨by omega,by first | omega | (simp;done) | (simp;omega)⟩)))⟩
    ·
     replace hq:=Bool.eq_false_iff.2 hq;replace hr:=aN hr hq;(try rw [if_neg Bool.false_ne_true] at hr);refine eO (E:=E) (qH [⟨#[46]⟩] HE r6 hq) ?_;intro w1 hb hx et hw;obtain ⟨d5,uk,cM⟩:=fq Hs E7 yz hw;have uK:Hd (bG w1 (SV S (w.heap.size+3) wr.heap.size) x [.int .i64 x.k,.int .i64 x.fr,.int .i64 x.to,.string x.tx,.slice A x.ks.length c]):=zh (Le.o.keep (cP hw (fun k hk=>by rcases hk with h1 | ⟨h1,h2⟩;(have h3:=HS.o _ h1;omega);omega) (fun k h1 e=>by rcases h1 with h1 | ⟨h1,h2⟩;(have h3:=HS.o _ h1;rcases e with e | e;omega;(try simp at e) <;> omega);(rcases e with e | e;omega;(try simp at e) <;> omega))) fun _ h=>h);have bp:=dX r6 hb;have a7:=b0 sn hw;clear bg bi bh Hs E7 yz Le r6 sn hw hb hx hq;obtain ⟨bg,bi,bh⟩:=d5.o.c1;go_wp2_with fail;by_cases hq:oneOf (E.tok i') [⟨#[91]⟩]=true
     ·
      replace hr:=aM hr hq;(try rw [if_pos rfl] at hr);refine qd (qG [⟨#[91]⟩] HE bp hq) ?_;intro w2 hp hb hx ep hw;obtain ⟨dU,nT,bO⟩:=fq d5 uk cM hw;have qx:Hd (bG w2 (SV S (w.heap.size+3) wr.heap.size) x [.int .i64 x.k,.int .i64 x.fr,.int .i64 x.to,.string x.tx,.slice A x.ks.length c]):=zh (uK.o.keep (cP hw (fun k hk=>by rcases hk with h1 | ⟨h1,h2⟩;(have h3:=HS.o _ h1;omega);omega) (fun k h1 e=>by rcases h1 with h1 | ⟨h1,h2⟩;(have h3:=HS.o _ h1;rcases e with e | e;omega;(try simp at e) <;> omega);(rcases e with e | e;omega;(try simp at e) <;> omega))) fun _ h=>h);have bn:=zh hp;have aE:=b0 a7 hw;clear bg bi bh d5 uk cM uK bp a7 hw hb hx hp hq;obtain ⟨bg,bi,bh⟩:=dU.o.c1;obtain ⟨nM,nL,nK,nJ,nI,nH,nG⟩:=nT.o.cells5;go_wp2_with fail;obtain ⟨ry,h0,hr⟩:=ag hr;obtain ⟨rz,hz,rfl⟩:=ff h0;clear h0
      refine (kH (R1:=nw E eh (fun (_:Unit) (_:World)=>True) _ (w2.heap.size+1) w.heap.size 1 1 (some ⟨w2.heap.size,0,none⟩) [.int .i64 x.k,.int .i64 x.fr,.int .i64 x.to,.string x.tx,.slice A x.ks.length c] rz) ((bn.o.alloc _).alloc _) rfl (sJ _) (t7 (lo:=lo+1) (base:=w.heap.size) (n:=1) (c:=1) (B:=some ⟨w2.heap.size,0,none⟩) (xs:=[.int .i64 x.k,.int .i64 x.fr,.int .i64 x.to,.string x.tx,.slice A x.ks.length c]) HE.o (Mt HE.o HF.o HO.o) (((bn.o.alloc _).alloc _).set2 false) trivial (by omega) (fun k hk=>hk.elim) ((aj.new' (by simp)).far1 (r:=E.g) (o:=2) (by omega) _) (fO (n:=1) (((aj.new' (by simp)).alloc _).far1 (r:=E.g) (o:=2) (by omega) _) (by omega) rfl (by unfold maxLen;omega)) (((dU.o.alloc _).alloc _).far1 (r:=E.g) (o:=2) (by omega) _) (by omega) (by omega) (fun e=>e.elim) (fun k hk=>by simp [Value.ownBlock] at hk;subst hk;exact ⟨by omega,by omega,(fun e=>e.elim)⟩) (by omega) (by first | omega | (simp;done) | (simp;omega)) hz) ?_);intro e w3 hA;rcases rz with p | ⟨⟨l,u⟩,i2,b2⟩
      ·
       obtain ⟨hb,rfl⟩:=hA;refine .inl ⟨_,rfl,?_⟩;(try dsimp only at hr);subst hr;go_wp2_with fail;exact ⟨rfl,(((aE.o.alloc _).alloc _).set_ (p:=⟨E.g,2,none⟩) (.inr (.inl rfl)) _).trans hb (fun k hk h=>by rcases h with h | h | h | h;exact .inl h;exact h.elim;(exfalso;omega);(simp [Value.ownBlock] at h;exfalso;omega)),rfl⟩
      obtain ⟨hb,rfl,cq,hI,eN,B2,c2,wV,kB,lI,oE,rC⟩:=hA;(try dsimp only at hr cq hI eN kB lI oE rC);obtain ⟨sC,-,wO⟩:=(eZ HE.o.wt (lo+1) (fun u j hj h=>fm (rR HE.o.wt HF.o (by omega) h)) _ _ _ _ (by omega) bn.o.ilt (by omega)).2 _ _ hz;dsimp only at sC wO;subst b2;refine .inr ⟨rfl,i2,false,cq,?_⟩;have jG:ay (fun k=>k=E.g∨k=w2.heap.size+1∨k=w2.heap.size) _ _:=hb.mono (fun k _ h=>by rcases h with h | h | h | h;exact .inl h;exact h.elim;exact .inr (.inl h);exact .inr (.inr (by simp [Value.ownBlock] at h;exact h.symm)));have fK:=jG.size;(try simp at fK);have hw:ay (Xs E [w2.heap.size+1,w2.heap.size]) w2 w3:=(((zb.alloc _).alloc _).set_ (p:=⟨E.g,2,none⟩) (.inr (.inl rfl)) _).trans jG (fun k _ h=>by rcases h with h | h | h <;> simp [Xs,h]);have eQ:=k2 dU hw (by omega) (by simp <;> omega);have oT:=k2 nT hw (by omega) (by simp <;> omega);have cC:=k2 bO hw (by omega) (by simp <;> omega);have po:Hd (bG w3 (SV S (w.heap.size+3) wr.heap.size) x [.int .i64 x.k,.int .i64 x.fr,.int .i64 x.to,.string x.tx,.slice A x.ks.length c]):=zh (qx.o.keep (cP hw (fun k hk=>by rcases hk with h1 | ⟨h1,h2⟩;(have h3:=HS.o _ h1;omega);omega) (fun k h1 e=>by rcases h1 with h1 | ⟨h1,h2⟩;(have h3:=HS.o _ h1;rcases e with e | e;omega;(try simp at e) <;> omega);(rcases e with e | e;omega;(try simp at e) <;> omega))) fun _ h=>h);have bD:=zh cq;have be:=YtfmgdmeopakdaaaGreatDoor.b2 aE hw (by simp <;> omega);clear bg bi bh nM nL nK nJ nI nH nG dU nT bO qx bn aE hw;rw [Nat.add_comm 1 l.length] at kB lI rC;have Fa:Hd (aj w3 (w2.heap.size+1) 23 #[.slice B2 (l.length+1) c2]):=zh kB;have uj:Hd (aQ w3 (SV S (w.heap.size+3) w3.heap.size) (.slice B2 (l.length+1) c2) (x :: l)):=zh (q_ (t:=x) lI rfl rC (po.o.keep zr fun k hk=>by rcases hk with h1 | ⟨h1,h2⟩;exact .inl h1;exact .inr ⟨by omega,by omega⟩) oE (by omega) (by first | omega | (simp;done) | (simp;omega)) (by omega));clear po hb jG cq kB lI rC oE hz hI;obtain ⟨bg,bi,bh⟩:=eQ.o.c1;go_wp2_with fail;by_cases hq:oneOf (E.tok i2) [⟨#[93]⟩]=true
      case neg=>
       replace hq:=Bool.eq_false_iff.2 hq;replace hr:=aZ hr hq;subst hr;refine (ci (x:=⟨#[93]⟩) HE.o (bD.o.set2 b) hq).mono ?_;rintro e wz ⟨rfl,hb⟩;go_wp2_with fail;exact ⟨rfl,(be.o.set_ (p:=⟨E.g,2,none⟩) (.inr (.inl rfl)) _).then_ hb,rfl⟩
      case pos=>
       replace hr:=aY hr hq;refine (bI (x:=⟨#[93]⟩) HE.o (bD.o.set2 b) hq).mono ?_;rintro e w4 ⟨rfl,hp,hb⟩;simp only [cu];have hx:=xm hb;have iV:=hx.size;(try simp at iV);have hw:ay (Xs E []) w3 w4:=(zb.set_ (p:=⟨E.g,2,none⟩) (.inr (.inl rfl)) _).trans hx xg;obtain ⟨fC,pA,cS,MM⟩:=jd eQ oT cC Fa hw;have xD:Hd (aQ w4 (SV S (w.heap.size+3) w3.heap.size) (.slice B2 (l.length+1) c2) (x :: l)):=zh (uj.o.keep (cP hw (fun k hk=>by rcases hk with h1 | ⟨h1,h2⟩;(have h3:=HS.o _ h1;omega);omega) (fun k h1 e=>by rcases h1 with h1 | ⟨h1,h2⟩;(have h3:=HS.o _ h1;rcases e with e | e;omega;(try simp at e) <;> omega);(rcases e with e | e;omega;(try simp at e) <;> omega))) fun _ h=>h);have bM:=zh hp;have bu:=b0 be hw;clear bg bi bh eQ oT cC Fa uj bD be hw hb hx hp hq;obtain ⟨bg,bi,bh⟩:=fC.o.c1;obtain ⟨nM,nL,nK,nJ,nI,nH,nG⟩:=pA.o.cells5;obtain ⟨Jh,Jg,Jf⟩:=MM.o.c1;go_wp2_with fail;replace hr:=bv hr;refine mr (E:=E) (ak HE.o bM.o (by omega)) ?_;intro w5 hb hx jY hw;obtain ⟨fy,ww,cN,Klb5⟩:=jd fC pA cS MM hw;have wv:Hd (aQ w5 (SV S (w.heap.size+3) w3.heap.size) (.slice B2 (l.length+1) c2) (x :: l)):=zh (xD.o.keep (cP hw (fun k hk=>by rcases hk with h1 | ⟨h1,h2⟩;(have h3:=HS.o _ h1;omega);omega) (fun k h1 e=>by rcases h1 with h1 | ⟨h1,h2⟩;(have h3:=HS.o _ h1;rcases e with e | e;omega;(try simp at e) <;> omega);(rcases e with e | e;omega;(try simp at e) <;> omega))) fun _ h=>h);have bH:=fN bM hb;have a8:=b0 bu hw;clear bg bi bh nM nL nK nJ nI nH nG Jh Jg Jf fC pA cS MM xD bM bu hw hb hx;obtain ⟨nM,nL,nK,nJ,nI,nH,nG⟩:=ww.o.cells5;go_wp2_with fail
       go_roundg f
       case measure=>omega
       case rel=>exact ⟨f,i2+1,_,B2,c2,rfl,by omega,by omega,zh hr,zh bH.o.f6,zh a8.o.s5,zh fy.o.f5,zh ww.o.p5,zh cN.o.f5,zh (bG.mk_ (n:=.mk 49 x.fr (E.tok (i2+1 - 1)).to ⟨#[]⟩ (x :: l)) (wv.o.keep ((aI.refl (SV S (w.heap.size+3) w3.heap.size) w5).set5 (by intro hk;rcases hk with h1 | ⟨h1,h2⟩;(have h3:=HS.o _ h1;omega);omega) _ _ _ _ _) fun k hk=>by rcases hk with h1 | ⟨h1,h2⟩;exact .inl h1;exact .inr ⟨by omega,by first | omega | (simp;omega)⟩))⟩
     ·
      replace hq:=Bool.eq_false_iff.2 hq;replace hr:=aN hr hq;(try rw [if_neg Bool.false_ne_true] at hr);refine eO (E:=E) (qH [⟨#[91]⟩] HE bp hq) ?_;intro w2 hb hx ep hw;obtain ⟨dU,nT,bO⟩:=fq d5 uk cM hw;have qx:Hd (bG w2 (SV S (w.heap.size+3) wr.heap.size) x [.int .i64 x.k,.int .i64 x.fr,.int .i64 x.to,.string x.tx,.slice A x.ks.length c]):=zh (uK.o.keep (cP hw (fun k hk=>by rcases hk with h1 | ⟨h1,h2⟩;(have h3:=HS.o _ h1;omega);omega) (fun k h1 e=>by rcases h1 with h1 | ⟨h1,h2⟩;(have h3:=HS.o _ h1;rcases e with e | e;omega;(try simp at e) <;> omega);(rcases e with e | e;omega;(try simp at e) <;> omega))) fun _ h=>h);have bn:=dX bp hb;have aE:=b0 a7 hw;clear bg bi bh d5 uk cM uK bp a7 hw hb hx hq;obtain ⟨bg,bi,bh⟩:=dU.o.c1;go_wp2_with fail;by_cases hq:oneOf (E.tok i') [⟨#[40]⟩]=true
      ·
       replace hr:=aM hr hq;(try rw [if_pos rfl] at hr);refine qd (qG [⟨#[40]⟩] HE bn hq) ?_;intro w3 hp hb hx fK hw;obtain ⟨eQ,oT,cC⟩:=fq dU nT bO hw;have po:Hd (bG w3 (SV S (w.heap.size+3) wr.heap.size) x [.int .i64 x.k,.int .i64 x.fr,.int .i64 x.to,.string x.tx,.slice A x.ks.length c]):=zh (qx.o.keep (cP hw (fun k hk=>by rcases hk with h1 | ⟨h1,h2⟩;(have h3:=HS.o _ h1;omega);omega) (fun k h1 e=>by rcases h1 with h1 | ⟨h1,h2⟩;(have h3:=HS.o _ h1;rcases e with e | e;omega;(try simp at e) <;> omega);(rcases e with e | e;omega;(try simp at e) <;> omega))) fun _ h=>h);have bD:=zh hp;have be:=b0 aE hw;clear bg bi bh dU nT bO qx bn aE hw hb hx hp hq;obtain ⟨bg,bi,bh⟩:=eQ.o.c1;obtain ⟨nM,nL,nK,nJ,nI,nH,nG⟩:=oT.o.cells5;go_wp2_with fail;obtain ⟨rx,h1,hr⟩:=ag hr;refine (ET HE.o HF.o HO.o (by omega) (Q1 HS.o (by first | omega | (simp;done) | (simp;omega)) (by first | omega | (simp;done) | (simp;omega)) (by omega)) (po.o.keep (aI.refl (SV S (w.heap.size+3) wr.heap.size) w3) fun _ h=>h) h1 bD.o).mono ?_;rintro e w4 hp;rcases rx with p | ⟨x4,i4,b4⟩
       ·
        obtain ⟨hb,rfl⟩:=hp;cases hr;go_wp2_with fail;exact ⟨rfl,be.o.trans hb mg,rfl⟩
       (try dsimp only at hr);obtain ⟨Ea,rfl⟩:=zf ((Cq HE.o.wt HF.o (by omega) bD.o.ilt _).2 _ _ h1);obtain ⟨hb,hp,v,rfl,A4,c4,rfl,ae⟩:=hp;(try dsimp only at hp ae);obtain ⟨iV,hw⟩:=ez hb;obtain ⟨fC,pA,cS⟩:=fq eQ oT cC hw;have se:Hd (bG w4 (SV S (w.heap.size+3) wr.heap.size) x [.int .i64 x.k,.int .i64 x.fr,.int .i64 x.to,.string x.tx,.slice A x.ks.length c]):=zh (po.o.keep (cP hw (fun k hk=>by rcases hk with h1 | ⟨h1,h2⟩;(have h3:=HS.o _ h1;omega);omega) (fun k h1 e=>by rcases h1 with h1 | ⟨h1,h2⟩;(have h3:=HS.o _ h1;rcases e with e | e;omega;(try simp at e) <;> omega);(rcases e with e | e;omega;(try simp at e) <;> omega))) fun _ h=>h);have bM:=zh hp;have bu:=b0 be hw;clear bg bi bh nM nL nK nJ nI nH nG eQ oT cC po bD be hw;have Vd:Hd (bG w4 (SV S (w.heap.size+3) w4.heap.size) x4 [.int .i64 x4.k,.int .i64 x4.fr,.int .i64 x4.to,.string x4.tx,.slice A4 x4.ks.length c4]):=zh (bG.mk_ (n:=x4) (ae.keep zr fun k hk=>by rcases hk with (h1 | ⟨h1,h2⟩) | ⟨h1,h2⟩;exact .inl h1;exact .inr ⟨by omega,by omega⟩;exact .inr ⟨by (try simp at h1);omega,h2⟩));clear ae hb hp h1;obtain ⟨nM,nL,nK,nJ,nI,nH,nG⟩:=pA.o.cells5;go_wp2_with fail
       go_roundg f
       case measure=>omega
       case rel=>exact ⟨f,i4,x4,A4,c4,rfl,by omega,by omega,zh hr,zh bM.o.f6,zh bu.o.s5,zh fC.o.f5,zh pA.o.p5,zh cS.o.f5,zh (Vd.o.keep ((aI.refl (SV S (w.heap.size+3) w4.heap.size) w4).set5 (by intro hk;rcases hk with h1 | ⟨h1,h2⟩;(have h3:=HS.o _ h1;omega);omega) _ _ _ _ _) fun k hk=>by rcases hk with h1 | ⟨h1,h2⟩;exact .inl h1;exact .inr ⟨by omega,by first | omega | (simp;omega)⟩)⟩
      ·
       replace hq:=Bool.eq_false_iff.2 hq;replace hr:=aN hr hq;(try rw [if_neg Bool.false_ne_true] at hr);refine eO (E:=E) (qH [⟨#[40]⟩] HE bn hq) ?_;intro w3 hb hx fK hw;obtain ⟨eQ,oT,cC⟩:=fq dU nT bO hw;have po:Hd (bG w3 (SV S (w.heap.size+3) wr.heap.size) x [.int .i64 x.k,.int .i64 x.fr,.int .i64 x.to,.string x.tx,.slice A x.ks.length c]):=zh (qx.o.keep (cP hw (fun k hk=>by rcases hk with h1 | ⟨h1,h2⟩;(have h3:=HS.o _ h1;omega);omega) (fun k h1 e=>by rcases h1 with h1 | ⟨h1,h2⟩;(have h3:=HS.o _ h1;rcases e with e | e;omega;(try simp at e) <;> omega);(rcases e with e | e;omega;(try simp at e) <;> omega))) fun _ h=>h);have bD:=dX bn hb;have be:=b0 aE hw;clear bg bi bh dU nT bO qx bn aE hw hb hx hq;obtain ⟨nM,nL,nK,nJ,nI,nH,nG⟩:=oT.o.cells5;obtain ⟨di,dh,de,dd,dc,db,da⟩:=cC.o.cells5;go_wp2_with fail;obtain rfl:=ar hr;exact am (r:=w.heap.size+2) results86 (by rfl) cC.o.p5 (by rfl) ⟨be.o.s5,bD.o.f6,_,rfl,_,_,rfl,(po.o.keep ((aI.refl (SV S (w.heap.size+3) wr.heap.size) w3).set5 (by intro hk;rcases hk with h1 | ⟨h1,h2⟩;(have h3:=HS.o _ h1;omega);omega) _ _ _ _ _) fun k hk=>by rcases hk with h1 | ⟨h1,h2⟩;exact .inl h1;exact .inr ⟨by omega,by first | omega | (simp;omega)⟩).row_⟩
end
set_option maxRecDepth 100000
set_option maxHeartbeats 4000000
theorem LH (t:Tk):dm t≤5:=by
  unfold dm
  repeat' split
  all_goals omega
section
variable {E:Env} {G:Gr} {lo:Nat} {w:World} {i:Nat} {b:Bool}
theorem Gu {α:Type} {q f:Nat} {y:No} {g:No→PM α} {r:Except Int (α×Ps)} (h:(j8 E.ts G q (f+1) y >>= g) (i,b)=some r):(if q<dm (E.tok i) then (G.binary y (q+1) >>= fun z=>j8 E.ts G q f z >>= g) else g y) (i,b)=some r:=by
  rw [j8,bV] at h;replace h:=bW h;(try dsimp only at h);rw [I0,bV,uy] at h;exact h
theorem pO (hE:eH E) (hF:GF E.ts G lo) (hO:OkG E G) (dA:lo≤i) {r:Except Int (No×Ps)} (hr:eX E.ts G (i,b)=some r) (h:PS E w i b):Calls prog 68 #[(.pointer (some ⟨E.g,0,none⟩))] w (cV E eh w (lp w) r):=by
  have fU:=h.glt;have ic:=h.lt;have iS:=hE.len;have eY:=h.ilt;have HP:=zh h;have HE:=zh hE;have cT:Hd (ay (fun k=>gX E k) w w):=zh zb;have HF:=zh hF;have HO:=zh hO;clear hF hO;clear h hE;have iM:=aO;have iT:=aU;have jf:=aT;have iL:=aS;go_enter func68,ntmps68;unfold eX at hr;go_wp2_with fail;obtain ⟨rx,h1,hr⟩:=ag hr;refine (xd HE.o HF.o HO.o (by omega) h1 (HP.o.alloc _)).mono ?_;rintro e w1 hp;rcases rx with p | ⟨x1,i1,b1⟩
  ·
   obtain ⟨hb,rfl⟩:=hp;cases hr;(try go_wp2_with fail);exact ⟨rfl,(cT.o.alloc _).trans hb mg,rfl⟩
  (try dsimp only at hr);obtain ⟨wN,rfl⟩:=zf ((tu HE.o.wt HF.o (by omega) eY).2 _ _ h1);obtain ⟨hb,hp,v,rfl,A1,c1,rfl,ae⟩:=hp;(try dsimp only at hp ae);have et:=hb.size;(try simp at et);have hw:ay (Xs E []) w w1:=(zb.alloc _).trans hb xg;have cM:=cW w.heap.size hb;have bp:=zh hp;have a7:=b0 cT hw;clear hw;have uK:=zn (lo:=(w.heap.size+1)) ae;clear ae hb hp h1;go_wp2_with fail;refine (om HE.o HF.o HO.o (by omega) (by omega) (zz (by first | omega | (simp;done) | (simp;omega)) (by omega)) (uK.o.keep zr fun _ h=>h) hr bp.o).mono ?_;rintro e w2 hp;rcases r with p | ⟨x,i2,b2⟩
  ·
   obtain ⟨hb,rfl⟩:=hp;go_wp2_with fail;exact ⟨rfl,a7.o.trans hb mg,rfl⟩
  obtain ⟨hb,hp,v,rfl,A2,c2,rfl,ae⟩:=hp;(try dsimp only at hp ae);obtain ⟨ep,hw⟩:=ez hb;have bO:=k0 cM hw;have qx:=n0 uK hw;have bn:=zh hp;have aE:=b0 a7 hw;clear cM uK bp a7 hw;have qx:Hd (aQ w2 (Iv (w.heap.size+1) w2.heap.size) (.slice A2 x.ks.length c2) x.ks):=zh (ae.keep zr fun k hk=>(by rcases hk with ⟨h1,h2⟩ | ⟨h1,h2⟩;exact ⟨by omega,by omega⟩;exact ⟨by (try simp at h1);omega,h2⟩));obtain ⟨di,dh,de,dd,dc,db,da⟩:=bO.o.cells5;go_wp2_with fail;exact am (r:=w.heap.size) results68 (by rfl) bO.o.p5 (by rfl) ⟨aE.o.s5,bn.o.f6,_,rfl,_,_,rfl,(zw qx)⟩
theorem lC (hE:eH E) (hF:GF E.ts G lo) (hO:OkG E G) (dA:lo≤i) {r:Except Int (No×Ps)} (hr:fY E.ts G (i,b)=some r) (h:PS E w i b):Calls prog 38 #[(.pointer (some ⟨E.g,0,none⟩))] w (cV E eh w (lp w) r):=by
  have fU:=h.glt;have ic:=h.lt;have iS:=hE.len;have eY:=h.ilt;have HP:=zh h;have HE:=zh hE;have cT:Hd (ay (fun k=>gX E k) w w):=zh zb;have HF:=zh hF;have HO:=zh hO;clear hF hO;clear h hE;have iM:=aO;have iT:=aU;have jf:=aT;have iL:=aS;go_enter func38,ntmps38;unfold fY at hr;replace hr:=bW hr;go_wp2_with fail;refine (bT HE.o (HP.o.alloc _)).mono ?_;rintro e w1 ⟨rfl,hb⟩;simp only [cu];obtain ⟨hx,et,hw⟩:=Dc (E:=E) hb;have cM:=cW w.heap.size hx;have bp:=dX HP hb;have a7:=b0 cT hw;clear hw hb hx;go_wp2_with fail;by_cases hq:oneOf (E.tok i) [⟨#[45]⟩,⟨#[33]⟩,⟨#[38]⟩,⟨#[42]⟩,⟨#[60,45]⟩]=true
  ·
   replace hr:=aM hr hq;(try rw [if_pos rfl] at hr);refine K4 (K2 [⟨#[45]⟩,⟨#[33]⟩,⟨#[38]⟩,⟨#[42]⟩,⟨#[60,45]⟩] HE bp hq) ?_;intro w2 hp hb hx ep hw;have bO:=k0 cM hw;have CP:=fJ w1.heap.size hx;have bn:=zh hp;have aE:=b0 a7 hw;clear cM bp a7 hw hb hx hp hq;go_wp2_with fail;obtain ⟨rx,h1,hr⟩:=ag hr;refine (HO.o.unary h1 bn.o).mono ?_;rintro e w3 hp;rcases rx with p | ⟨x3,i3,b3⟩
   ·
    obtain ⟨hb,rfl⟩:=hp;cases hr;(try go_wp2_with fail);exact ⟨rfl,aE.o.trans hb mg,rfl⟩
   (try dsimp only at hr);obtain ⟨RJ,rfl⟩:=zf ((HF.o.unary _ _ (by omega) bn.o.ilt).2 _ _ h1);obtain ⟨hb,hp,v,rfl,A3,c3,rfl,ae⟩:=hp;(try dsimp only at hp ae);obtain ⟨fK,hw⟩:=ez hb;obtain ⟨cC,E'⟩:=dJ bO CP hw;have bD:=zh hp;have be:=b0 aE hw;clear bO CP bn aE hw;have po:=zn (lo:=w2.heap.size) ae;clear ae hb hp h1;obtain ⟨nC,nB,nA,nz,ny,nx⟩:=E'.o.cells4;go_wp2_with fail;refine kT (E:=E) (ak HE.o ((bD.o.alloc _).alloc _) (by omega)) ?_;intro w4 hb hx iV hw;obtain ⟨cS,um⟩:=dJ cC E' hw;have Ar:=fJ w3.heap.size hx;have KE:=cW (w3.heap.size+1) hx;have se:=n0 po hw;have bM:=kG bD hb;have bu:=b0 be hw;clear nC nB nA nz ny nx cC E' po bD be hw hb hx;obtain ⟨di,dh,de,dd,dc,db,da⟩:=cS.o.cells5;go_wp2_with fail;obtain rfl:=a6 hr;exact am (r:=w.heap.size) results38 (by rfl) cS.o.p5 (by rfl) ⟨bu.o.s5,bM.o.f6,_,rfl,_,_,rfl,aJ (n:=1) KE.o.f5 (aC.one (zv (E:=E) se)) rfl (by decide) (⟨by omega,by simp <;> omega⟩)⟩
  ·
   replace hq:=Bool.eq_false_iff.2 hq;replace hr:=aN hr hq;(try rw [if_neg Bool.false_ne_true] at hr);refine kT (E:=E) (K3 [⟨#[45]⟩,⟨#[33]⟩,⟨#[38]⟩,⟨#[42]⟩,⟨#[60,45]⟩] HE bp hq) ?_;intro w2 hb hx ep hw;have bO:=k0 cM hw;have CP:=fJ w1.heap.size hx;have bn:=kG bp hb;have aE:=b0 a7 hw;clear cM bp a7 hw hb hx hq;go_wp2_with fail;refine (pO HE.o HF.o HO.o (by omega) hr bn.o).mono ?_;rintro e w3 hp;rcases r with p | ⟨x,i2,b2⟩
   ·
    obtain ⟨hb,rfl⟩:=hp;go_wp2_with fail;exact ⟨rfl,aE.o.trans hb mg,rfl⟩
   obtain ⟨hb,hp,v,rfl,A2,c2,rfl,ae⟩:=hp;(try dsimp only at hp ae);obtain ⟨fK,hw⟩:=ez hb;obtain ⟨cC,E'⟩:=dJ bO CP hw;have bD:=zh hp;have be:=b0 aE hw;clear bO CP bn aE hw;have po:Hd (aQ w3 (Iv w2.heap.size w3.heap.size) (.slice A2 x.ks.length c2) x.ks):=zh (ae.keep zr fun k hk=>⟨by have h1:=hk.1;(try simp at h1);omega,hk.2⟩);obtain ⟨di,dh,de,dd,dc,db,da⟩:=cC.o.cells5;go_wp2_with fail;exact am (r:=w.heap.size) results38 (by rfl) cC.o.p5 (by rfl) ⟨be.o.s5,bD.o.f6,_,rfl,_,_,rfl,(zw po)⟩
theorem rP (hE:eH E) (hF:GF E.ts G lo) (hO:OkG E G) (dA:lo≤i) (wN:1≤i) {t:No} {cs:List Value} {least:Nat} {S:Nat→Prop} (hS:∀ k,S k→k<w.heap.size∧k≠E.g) (hl6:least≤6) (kx:1≤least) (ht:bG w S t cs) {r:Except Int (No×Ps)} (hr:js E.ts G t least (i,b)=some r) (h:PS E w i b) :
    Calls prog 37 #[(.pointer (some ⟨E.g,0,none⟩)),.agg cs.toArray,.int .i64 least] w (cV E eh w (Hl S w) r):=by
  obtain ⟨A0,c0,rfl,-⟩:=ht.forms;have fU:=h.glt;have ic:=h.lt;have iS:=hE.len;have eY:=h.ilt;have HP:=zh h;have HE:=zh hE;have HF:=zh hF;have HO:=zh hO;have HS:=zh hS;have Mz:Hd (bG w (SV S w.heap.size w.heap.size) t [.int .i64 t.k,.int .i64 t.fr,.int .i64 t.to,.string t.tx,.slice A0 t.ks.length c0]):=zh (ht.keep zr fun k h=>.inl h);have cT:Hd (ay (fun k=>gX E k) w w):=zh zb;clear h hE hF hO hS ht;have iM:=aO;have iT:=aU;have jf:=aT;have iL:=aS;go_enter func37,ntmps37;unfold js at hr;go_wp2_with fail
  go_loopg [] (E.ts.length+1) (fun m wr=>∃ (f i':Nat) (x:No) (A:Option Addr) (c:Nat),m=f∧lo≤i'∧1≤i'∧Hd (eM E.ts G least f x (i',b)=some r)∧Hd (PS E wr i' b)∧Hd (ay (fun k=>gX E k) w wr)∧Hd (aj wr w.heap.size 25 #[.int .i64 x.k,.int .i64 x.fr,.int .i64 x.to,.string x.tx,.slice A x.ks.length c])∧Hd (aj wr (w.heap.size+1) 25 #[.int .i64 0,.int .i64 0,.int .i64 0,.string ⟨#[]⟩,.slice none 0 0])∧Hd (bG wr (SV S (w.heap.size+2) wr.heap.size) x [.int .i64 x.k,.int .i64 x.fr,.int .i64 x.to,.string x.tx,.slice A x.ks.length c]))
  case atStart=>exact ⟨E.ts.length+1,i,t,A0,c0,rfl,dA,wN,hr,((HP.o.alloc _).alloc _),((cT.o.alloc _).alloc _),((aj.new' (by simp)).alloc _),(aj.new' (by simp)),(Mz.o.keep (((aI.refl (SV S w.heap.size w.heap.size) w).alloc (fun k hk=>by rcases hk with h1 | ⟨h1,h2⟩;(have h3:=HS.o _ h1;first | omega | (simp;omega));(first | omega | (simp;omega))) _).alloc (fun k hk=>by rcases hk with h1 | ⟨h1,h2⟩;(have h3:=HS.o _ h1;first | omega | (simp;omega));(first | omega | (simp;omega))) _) fun k hk=>by rcases hk with h1 | ⟨h1,h2⟩;exact .inl h1;exact .inr ⟨by omega,by first | omega | (simp;omega)⟩)⟩
  case round=>
   obtain ⟨f,i',x,A,c,rfl,D8,W_,HR,r6,sn,E7,yz,Le⟩:=hrel;cases gk with
   | zero=>exact absurd HR.o (by simp [eM])
   | succ f=>
    have hr:=HR.o;rw [eM] at hr;replace hr:=bW hr;clear HR;have sB:=r6.o.ilt;have LN:=yz.o.lt;have hk5:=LH (E.tok i');go_wp2_with fail;refine (bT HE.o r6.o).mono ?_;rintro e w1 ⟨rfl,hb⟩;simp only [cu];obtain ⟨hx,et,hw⟩:=nX (E:=E) hb;obtain ⟨uk,cM⟩:=dJ E7 yz hw;have uK:Hd (bG w1 (SV S (w.heap.size+2) wr.heap.size) x [.int .i64 x.k,.int .i64 x.fr,.int .i64 x.to,.string x.tx,.slice A x.ks.length c]):=zh (Le.o.keep (cP hw (fun k hk=>by rcases hk with h1 | ⟨h1,h2⟩;(have h3:=HS.o _ h1;omega);omega) (fun k h1 e=>by rcases h1 with h1 | ⟨h1,h2⟩;(have h3:=HS.o _ h1;rcases e with e | e;omega;(try simp at e) <;> omega);(rcases e with e | e;omega;(try simp at e) <;> omega))) fun _ h=>h);have bp:=fN r6 hb;have a7:=b0 sn hw;clear E7 yz Le r6 sn hw hb hx;go_wp2_with fail;refine eO (E:=E) (vj (t:=E.tok i')) ?_;intro w2 hb hx ep hw;obtain ⟨nT,bO⟩:=dJ uk cM hw;have CP:=cW w1.heap.size hx;have qx:Hd (bG w2 (SV S (w.heap.size+2) wr.heap.size) x [.int .i64 x.k,.int .i64 x.fr,.int .i64 x.to,.string x.tx,.slice A x.ks.length c]):=zh (uK.o.keep (cP hw (fun k hk=>by rcases hk with h1 | ⟨h1,h2⟩;(have h3:=HS.o _ h1;omega);omega) (fun k h1 e=>by rcases h1 with h1 | ⟨h1,h2⟩;(have h3:=HS.o _ h1;rcases e with e | e;omega;(try simp at e) <;> omega);(rcases e with e | e;omega;(try simp at e) <;> omega))) fun _ h=>h);have bn:=dX bp hb;have aE:=b0 a7 hw;clear uk cM uK bp a7 hw hb hx;by_cases hk:dm (E.tok i')<least
    ·
     rw [if_pos hk] at hr;(have fT:(dm (E.tok i'):Int)<(least:Int):=by omega);clear hk;obtain ⟨nM,nL,nK,nJ,nI,nH,nG⟩:=nT.o.cells5;obtain ⟨di,dh,de,dd,dc,db,da⟩:=bO.o.cells5;go_wp2_with fail;obtain rfl:=ar hr;exact am (r:=w.heap.size+1) results37 (by rfl) bO.o.p5 (by rfl) ⟨aE.o.s5,bn.o.f6,_,rfl,_,_,rfl,(qx.o.keep ((aI.refl (SV S (w.heap.size+2) wr.heap.size) w2).set5 (by intro hk;rcases hk with h1 | ⟨h1,h2⟩;(have h3:=HS.o _ h1;omega);omega) _ _ _ _ _) fun k hk=>by rcases hk with h1 | ⟨h1,h2⟩;exact .inl h1;exact .inr ⟨by omega,by first | omega | (simp;omega)⟩).row_⟩
    ·
     rw [if_neg hk] at hr;(have fT:¬ (dm (E.tok i'):Int)<(least:Int):=by omega);have kR:i'+1<E.ts.length:=HE.o.wt.nxt _ sB (FD (r:=0) (show 0<dm (E.tok i') by omega));replace hr:=cy hr;obtain ⟨nb,rF,rE,na,m_⟩:=bn.o.cells;go_wp2_with fail;obtain ⟨rx,h1,hr⟩:=ag hr;refine (HO.o.unary h1 (bn.o.set1 (j:=i'+1) kR)).mono ?_;rintro e w3 hp;rcases rx with p | ⟨x3,i3,b3⟩
     ·
      obtain ⟨hb,rfl⟩:=hp;cases hr;(try go_wp2_with fail);exact ⟨rfl,(aE.o.set_ (p:=⟨E.g,1,none⟩) (.inr (.inl rfl)) _).trans hb mg,rfl⟩
     (try dsimp only at hr);obtain ⟨RJ,rfl⟩:=zf ((HF.o.unary _ _ (by omega) kR).2 _ _ h1);obtain ⟨hb,hp,v,rfl,A3,c3,rfl,ae⟩:=hp;(try dsimp only at hp ae);have fK:=hb.size;(try simp at fK);have hw:ay (Xs E []) w2 w3:=(zb.set_ (p:=⟨E.g,1,none⟩) (.inr (.inl rfl)) _).trans hb xg;obtain ⟨oT,cC,E'⟩:=fq nT bO CP hw;have po:Hd (bG w3 (SV S (w.heap.size+2) wr.heap.size) x [.int .i64 x.k,.int .i64 x.fr,.int .i64 x.to,.string x.tx,.slice A x.ks.length c]):=zh (qx.o.keep (cP hw (fun k hk=>by rcases hk with h1 | ⟨h1,h2⟩;(have h3:=HS.o _ h1;omega);omega) (fun k h1 e=>by rcases h1 with h1 | ⟨h1,h2⟩;(have h3:=HS.o _ h1;rcases e with e | e;omega;(try simp at e) <;> omega);(rcases e with e | e;omega;(try simp at e) <;> omega))) fun _ h=>h);have bD:=zh hp;have be:=b0 aE hw;clear nb rF rE na m_ nT bO CP qx bn aE hw;have Ny3:=zn (lo:=w2.heap.size) ae;clear ae hb hp h1;go_wp2_with fail
     go_loopg [] (E.ts.length+1) (fun m wq=>∃ (f2 j:Nat) (y:No) (A2:Option Addr) (c2:Nat),m=f2∧i'+1<j∧Hd ((j8 E.ts G (dm (E.tok i')) f2 y >>= fun z=>(bd E.ts 52 x.fr (E.tok i').tx [x,z] >>= fun n=>eM E.ts G least f n)) (j,b)=some r)∧Hd (PS E wq j b)∧Hd (ay (fun k=>gX E k) w wq)∧Hd (aj wq w.heap.size 25 #[.int .i64 x.k,.int .i64 x.fr,.int .i64 x.to,.string x.tx,.slice A x.ks.length c])∧Hd (aj wq (w.heap.size+1) 25 #[.int .i64 0,.int .i64 0,.int .i64 0,.string ⟨#[]⟩,.slice none 0 0])∧Hd (aj wq w1.heap.size 36 #[.int .i64 (E.tok i').k,.int .i64 (E.tok i').fr,.int .i64 (E.tok i').to,.string (E.tok i').tx])∧Hd (aj wq w3.heap.size 25 #[.int .i64 y.k,.int .i64 y.fr,.int .i64 y.to,.string y.tx,.slice A2 y.ks.length c2])∧Hd (bG wq (SV S (w.heap.size+2) wr.heap.size) x [.int .i64 x.k,.int .i64 x.fr,.int .i64 x.to,.string x.tx,.slice A x.ks.length c])∧Hd (bG wq (SV (Iv w2.heap.size w3.heap.size) (w3.heap.size+1) wq.heap.size) y [.int .i64 y.k,.int .i64 y.fr,.int .i64 y.to,.string y.tx,.slice A2 y.ks.length c2]))
     case atStart=>exact ⟨E.ts.length+1,i3,x3,A3,c3,rfl,by omega,zh hr,zh (bD.o.alloc _),zh (be.o.alloc _),zh (oT.o.alloc _),zh (cC.o.alloc _),zh (E'.o.alloc _),zh (aj.new' (by simp)),zh (po.o.keep ((aI.refl (SV S (w.heap.size+2) wr.heap.size) w3).alloc (fun k hk=>by rcases hk with h1 | ⟨h1,h2⟩;(have h3:=HS.o _ h1;first | omega | (simp;omega));(first | omega | (simp;omega))) _) fun _ h=>h),zh (Ny3.o.keep (zr.za _) fun _ h=>.inl h)⟩
     case round=>
      obtain ⟨f2,j,y,A2,c2,rfl,hj,HR,Vp,QW,TC,ZI,ZH,XY,Zy,Zx⟩:=hrel
      rename World=>wq
      cases gk with
      | zero=>exact absurd HR.o (by simp [j8,bind_def])
      | succ f2=>
       have hr:=Gu HR.o;clear HR;have Nr:=Vp.o.ilt;have hzq:=XY.o.lt;go_wp2_with fail;refine mr (E:=E) (bT HE.o Vp.o) ?_;intro w4 hb hx iV hw;obtain ⟨pA,cS,um,ZG⟩:=jd TC ZI ZH XY hw;have se:Hd (bG w4 (SV S (w.heap.size+2) wr.heap.size) x [.int .i64 x.k,.int .i64 x.fr,.int .i64 x.to,.string x.tx,.slice A x.ks.length c]):=zh (Zy.o.keep (cP hw (fun k hk=>by rcases hk with h1 | ⟨h1,h2⟩;(have h3:=HS.o _ h1;omega);omega) (fun k h1 e=>by rcases h1 with h1 | ⟨h1,h2⟩;(have h3:=HS.o _ h1;rcases e with e | e;omega;(try simp at e) <;> omega);(rcases e with e | e;omega;(try simp at e) <;> omega))) fun _ h=>h);have Vd:Hd (bG w4 (SV (Iv w2.heap.size w3.heap.size) (w3.heap.size+1) wq.heap.size) y [.int .i64 y.k,.int .i64 y.fr,.int .i64 y.to,.string y.tx,.slice A2 y.ks.length c2]):=zh (Zx.o.keep (cP hw (fun k hk=>by rcases hk with h1 | ⟨h1,h2⟩;(have h3:=h1.1;have h4:=h1.2;omega);omega) (fun k h1 e=>by rcases h1 with h1 | ⟨h1,h2⟩;(have h3:=h1.1;have h4:=h1.2;rcases e with e | e;omega;(try simp at e) <;> omega);(rcases e with e | e;omega;(try simp at e) <;> omega))) fun _ h=>h);have bM:=fN Vp hb;have bu:=b0 QW hw;clear TC ZI ZH XY Zy Zx Vp QW hw hb hx;go_wp2_with fail;refine mr (E:=E) (vj (t:=E.tok j)) ?_;intro w5 hb hx jY hw;obtain ⟨ww,cN,jP,QP⟩:=jd pA cS um ZG hw;have pX:Hd (bG w5 (SV S (w.heap.size+2) wr.heap.size) x [.int .i64 x.k,.int .i64 x.fr,.int .i64 x.to,.string x.tx,.slice A x.ks.length c]):=zh (se.o.keep (cP hw (fun k hk=>by rcases hk with h1 | ⟨h1,h2⟩;(have h3:=HS.o _ h1;omega);omega) (fun k h1 e=>by rcases h1 with h1 | ⟨h1,h2⟩;(have h3:=HS.o _ h1;rcases e with e | e;omega;(try simp at e) <;> omega);(rcases e with e | e;omega;(try simp at e) <;> omega))) fun _ h=>h)
       have J8:Hd (bG w5 (SV (Iv w2.heap.size w3.heap.size) (w3.heap.size+1) wq.heap.size) y [.int .i64 y.k,.int .i64 y.fr,.int .i64 y.to,.string y.tx,.slice A2 y.ks.length c2]):=zh (Vd.o.keep (cP hw (fun k hk=>by rcases hk with h1 | ⟨h1,h2⟩;(have h3:=h1.1;have h4:=h1.2;omega);omega) (fun k h1 e=>by rcases h1 with h1 | ⟨h1,h2⟩;(have h3:=h1.1;have h4:=h1.2;rcases e with e | e;omega;(try simp at e) <;> omega);(rcases e with e | e;omega;(try simp at e) <;> omega))) fun _ h=>h);have bH:=fN bM hb;have a8:=b0 bu hw;clear pA cS um ZG se Vd bM bu hw hb hx;by_cases hk:dm (E.tok i')<dm (E.tok j)
       ·
        rw [if_pos hk] at hr;(have GW:(dm (E.tok i'):Int)<(dm (E.tok j):Int):=by omega);obtain ⟨UG,UF,UE,UD,Qj,Lp,Q0⟩:=QP.o.cells5;go_wp2_with fail;rw [show (dm (E.tok i'):Int)+1=((dm (E.tok i')+1:Nat):Int) from by omega];obtain ⟨rx,h1,hr⟩:=ag hr;refine (HO.o.binary h1 bH.o (J8.o.keep (aI.refl (SV (Iv w2.heap.size w3.heap.size) (w3.heap.size+1) wq.heap.size) w5) fun _ h=>h) (Q1 (m:=w3.heap.size) (zz (Nat.le_refl _) (by omega)) (by first | omega | (simp;done) | (simp;omega)) (by first | omega | (simp;done) | (simp;omega)) (by omega)) ⟨by omega,by omega⟩ (by omega)).mono ?_;rintro e w6 hp;rcases rx with p | ⟨x6,i6,b6⟩
        ·
         obtain ⟨hb,rfl⟩:=hp;cases hr;(try go_wp2_with fail);exact ⟨rfl,a8.o.trans hb mg,rfl⟩
        (try dsimp only at hr);obtain ⟨xj,rfl⟩:=zf ((HF.o.binary _ _ _ _ (by omega) (by omega) bH.o.ilt).2 _ _ h1);obtain ⟨hb,hp,v,rfl,A6,c6,rfl,ae⟩:=hp;(try dsimp only at hp ae);obtain ⟨iK,hw⟩:=ez hb;obtain ⟨MI,cJ,gR,Vg⟩:=jd ww cN jP QP hw;have gm:Hd (bG w6 (SV S (w.heap.size+2) wr.heap.size) x [.int .i64 x.k,.int .i64 x.fr,.int .i64 x.to,.string x.tx,.slice A x.ks.length c]):=zh (pX.o.keep (cP hw (fun k hk=>by rcases hk with h1 | ⟨h1,h2⟩;(have h3:=HS.o _ h1;omega);omega) (fun k h1 e=>by rcases h1 with h1 | ⟨h1,h2⟩;(have h3:=HS.o _ h1;rcases e with e | e;omega;(try simp at e) <;> omega);(rcases e with e | e;omega;(try simp at e) <;> omega))) fun _ h=>h);have QJ:Hd (bG w6 (SV (Iv w2.heap.size w3.heap.size) (w3.heap.size+1) wq.heap.size) y [.int .i64 y.k,.int .i64 y.fr,.int .i64 y.to,.string y.tx,.slice A2 y.ks.length c2]):=zh (J8.o.keep (cP hw (fun k hk=>by rcases hk with h1 | ⟨h1,h2⟩;(have h3:=h1.1;have h4:=h1.2;omega);omega) (fun k h1 e=>by rcases h1 with h1 | ⟨h1,h2⟩;(have h3:=h1.1;have h4:=h1.2;rcases e with e | e;omega;(try simp at e) <;> omega);(rcases e with e | e;omega;(try simp at e) <;> omega))) fun _ h=>h);have bC:=zh hp;have aR:=b0 a8 hw;clear UG UF UE UD Qj Lp Q0 ww cN jP QP pX J8 bH a8 hw;have XC:Hd (bG w6 (SV (Iv w2.heap.size w3.heap.size) (w3.heap.size+1) w6.heap.size) x6 [.int .i64 x6.k,.int .i64 x6.fr,.int .i64 x6.to,.string x6.tx,.slice A6 x6.ks.length c6]):=zh (bG.mk_ (n:=x6) (ae.keep zr fun k hk=>by rcases hk with (h1 | ⟨h1,h2⟩) | ⟨h1,h2⟩;exact .inl h1;exact .inr ⟨by omega,by omega⟩;exact .inr ⟨by (try simp at h1);omega,h2⟩));clear ae hb hp h1;(have hi6':j<i6:=by (have h9:=xj;have oa:¬ dm (ap E.ts j)<dm (E.tok i')+1:=(by show ¬ dm (E.tok j)<_;omega);rw [if_neg oa] at h9;omega));obtain ⟨UG,UF,UE,UD,Qj,Lp,Q0⟩:=Vg.o.cells5;go_wp2_with fail
        go_roundg f2
        case measure=>omega
        case rel=>exact ⟨f2,i6,x6,A6,c6,rfl,by omega,zh hr,zh bC.o.f6,zh aR.o.s5,zh MI.o.f5,zh cJ.o.f5,zh gR.o.f5,zh Vg.o.p5,zh (gm.o.keep ((aI.refl (SV S (w.heap.size+2) wr.heap.size) w6).set5 (by intro hk;rcases hk with h1 | ⟨h1,h2⟩;(have h3:=HS.o _ h1;omega);omega) _ _ _ _ _) fun _ h=>h),zh (XC.o.keep ((aI.refl (SV (Iv w2.heap.size w3.heap.size) (w3.heap.size+1) w6.heap.size) w6).set5 (by intro hk;rcases hk with h1 | ⟨h1,h2⟩;(have h3:=h1.1;have h4:=h1.2;omega);omega) _ _ _ _ _) fun k hk=>by rcases hk with h1 | ⟨h1,h2⟩;exact .inl h1;exact .inr ⟨by first | omega | (simp;omega),by first | omega | (simp;omega)⟩)⟩
       ·
        rw [if_neg hk] at hr;(have GW:¬ (dm (E.tok i'):Int)<(dm (E.tok j):Int):=by omega);clear hk;obtain ⟨nM,nL,nK,nJ,nI,nH,nG⟩:=ww.o.cells5;obtain ⟨nC,nB,nA,nz,ny,nx⟩:=jP.o.cells4;obtain ⟨UG,UF,UE,UD,Qj,Lp,Q0⟩:=QP.o.cells5;go_wp2_with fail;replace hr:=bv hr;refine eO (E:=E) (ak HE.o (bH.o.alloc _) (by omega)) ?_;intro w6 hb hx iK hw;obtain ⟨MI,cJ,gR,Vg⟩:=jd ww cN jP QP hw;have wC:=cW w5.heap.size hx;have gm:Hd (bG w6 (SV S (w.heap.size+2) wr.heap.size) x [.int .i64 x.k,.int .i64 x.fr,.int .i64 x.to,.string x.tx,.slice A x.ks.length c]):=zh (pX.o.keep (cP hw (fun k hk=>by rcases hk with h1 | ⟨h1,h2⟩;(have h3:=HS.o _ h1;omega);omega) (fun k h1 e=>by rcases h1 with h1 | ⟨h1,h2⟩;(have h3:=HS.o _ h1;rcases e with e | e;omega;(try simp at e) <;> omega);(rcases e with e | e;omega;(try simp at e) <;> omega))) fun _ h=>h);have QJ:Hd (bG w6 (SV (Iv w2.heap.size w3.heap.size) (w3.heap.size+1) wq.heap.size) y [.int .i64 y.k,.int .i64 y.fr,.int .i64 y.to,.string y.tx,.slice A2 y.ks.length c2]):=zh (J8.o.keep (cP hw (fun k hk=>by rcases hk with h1 | ⟨h1,h2⟩;(have h3:=h1.1;have h4:=h1.2;omega);omega) (fun k h1 e=>by rcases h1 with h1 | ⟨h1,h2⟩;(have h3:=h1.1;have h4:=h1.2;rcases e with e | e;omega;(try simp at e) <;> omega);(rcases e with e | e;omega;(try simp at e) <;> omega))) fun _ h=>h);have bC:=dX bH hb;have aR:=b0 a8 hw;clear nM nL nK nJ nI nH nG nC nB nA nz ny nx UG UF UE UD Qj Lp Q0 ww cN jP QP pX J8 bH a8 hw hb hx;obtain ⟨nM,nL,nK,nJ,nI,nH,nG⟩:=MI.o.cells5;go_wp2_with fail
        go_roundg f
        case measure=>omega
        case rel=>exact ⟨f,j,_,(some ⟨w5.heap.size,0,none⟩),2,rfl,by omega,by omega,zh hr,zh bC.o.f6,zh aR.o.s5,zh MI.o.p5,zh cJ.o.f5,zh (bG.mk_ (n:=.mk 52 x.fr (E.tok (j - 1)).to (E.tok i').tx [x,y]) (aJ (n:=2) wC.o.f5 (aC.cons_ (gm.o.keep ((aI.refl (SV S (w.heap.size+2) wr.heap.size) w6).set5 (by intro hk;rcases hk with h1 | ⟨h1,h2⟩;(have h3:=HS.o _ h1;omega);omega) _ _ _ _ _) fun k hk=>by rcases hk with h1 | ⟨h1,h2⟩;exact .inl h1;exact .inr ⟨by omega,by first | omega | (simp;omega)⟩) (aC.one (QJ.o.keep ((aI.refl (SV (Iv w2.heap.size w3.heap.size) (w3.heap.size+1) wq.heap.size) w6).set5 (by intro hk;rcases hk with h1 | ⟨h1,h2⟩;(have h3:=h1.1;have h4:=h1.2;omega);omega) _ _ _ _ _) fun k hk=>by rcases hk with h1 | ⟨h1,h2⟩;exact .inr ⟨by (have h3:=h1.1;first | omega | (simp;omega)),by (have h3:=h1.2;first | omega | (simp;omega))⟩;exact .inr ⟨by (skip;first | omega | (simp;omega)),by (skip;first | omega | (simp;omega))⟩))) rfl (by decide) (.inr ⟨by omega,by first | omega | (simp;done) | (simp;omega)⟩)))⟩
theorem bZ (hE:eH E) (hF:GF E.ts G lo) (hO:OkG E G) (dA:lo≤i) {r:Except Int (No×Ps)} (hr:dM E.ts G (i,b)=some r) (h:PS E w i b):Calls prog 21 #[(.pointer (some ⟨E.g,0,none⟩))] w (cV E eh w (lp w) r):=by
  have fU:=h.glt;have ic:=h.lt;have iS:=hE.len;have eY:=h.ilt;have HP:=zh h;have HE:=zh hE;have cT:Hd (ay (fun k=>gX E k) w w):=zh zb;have HF:=zh hF;have HO:=zh hO;clear hF hO;clear h hE;have iM:=aO;have iT:=aU;have jf:=aT;have iL:=aS;go_enter func21,ntmps21;unfold dM at hr;go_wp2_with fail;obtain ⟨rx,h1,hr⟩:=ag hr;refine (lC HE.o HF.o HO.o (by omega) h1 (HP.o.alloc _)).mono ?_;rintro e w1 hp;rcases rx with p | ⟨x1,i1,b1⟩
  ·
   obtain ⟨hb,rfl⟩:=hp;cases hr;(try go_wp2_with fail);exact ⟨rfl,(cT.o.alloc _).trans hb mg,rfl⟩
  (try dsimp only at hr);obtain ⟨wN,rfl⟩:=zf ((kP HE.o.wt HF.o (by omega) eY).2 _ _ h1);obtain ⟨hb,hp,v,rfl,A1,c1,rfl,ae⟩:=hp;(try dsimp only at hp ae);have et:=hb.size;(try simp at et);have hw:ay (Xs E []) w w1:=(zb.alloc _).trans hb xg;have cM:=cW w.heap.size hb;have bp:=zh hp;have a7:=b0 cT hw;clear hw;have uK:=zn (lo:=(w.heap.size+1)) ae;clear ae hb hp h1;go_wp2_with fail;refine (rP (least:=1) HE.o HF.o HO.o (by omega) (by omega) (zz (by first | omega | (simp;done) | (simp;omega)) (by omega)) (by decide) (by decide) (uK.o.keep zr fun _ h=>h) hr bp.o).mono ?_;rintro e w2 hp;rcases r with p | ⟨x,i2,b2⟩
  ·
   obtain ⟨hb,rfl⟩:=hp;go_wp2_with fail;exact ⟨rfl,a7.o.trans hb mg,rfl⟩
  obtain ⟨hb,hp,v,rfl,A2,c2,rfl,ae⟩:=hp;(try dsimp only at hp ae);obtain ⟨ep,hw⟩:=ez hb;have bO:=k0 cM hw;have qx:=n0 uK hw;have bn:=zh hp;have aE:=b0 a7 hw;clear cM uK bp a7 hw;have qx:Hd (aQ w2 (Iv (w.heap.size+1) w2.heap.size) (.slice A2 x.ks.length c2) x.ks):=zh (ae.keep zr fun k hk=>(by rcases hk with ⟨h1,h2⟩ | ⟨h1,h2⟩;exact ⟨by omega,by omega⟩;exact ⟨by (try simp at h1);omega,h2⟩));obtain ⟨di,dh,de,dd,dc,db,da⟩:=bO.o.cells5;go_wp2_with fail;exact am (r:=w.heap.size) results21 (by rfl) bO.o.p5 (by rfl) ⟨aE.o.s5,bn.o.f6,_,rfl,_,_,rfl,(zw qx)⟩
end
set_option maxRecDepth 100000
set_option maxHeartbeats 4000000
section
variable {E:Env} {G:Gr} {lo:Nat} {w:World} {i:Nat} {b:Bool}
theorem og (hE:eH E) (hF:GF E.ts G lo) (hO:OkG E G) (dA:lo≤i) (h0:(E.tok i).k≠7) {r:Except Int (No×Ps)} (hr:fk E.ts G (i,b)=some r) (h:PS E w i b):Calls prog 77 #[(.pointer (some ⟨E.g,0,none⟩))] w (cV E eh w (lp w) r):=by
  have fU:=h.glt;have ic:=h.lt;have iS:=hE.len;have eY:=h.ilt;have HP:=zh h;have HE:=zh hE;have cT:Hd (ay (fun k=>gX E k) w w):=zh zb;have HF:=zh hF;have HO:=zh hO;clear hF hO;clear h hE;have iM:=aO;have iT:=aU;have jf:=aT;have iL:=aS;go_enter func77,ntmps77;unfold fk at hr;replace hr:=gV hr;have kR:i+1<E.ts.length:=HE.o.wt.nxt _ eY h0;go_wp2_with fail;refine (dN HE.o (HP.o.alloc _) kR).mono ?_;rintro e w1 ⟨rfl,hp,hb⟩;simp only [cu];obtain ⟨hx,et,hw⟩:=Gh (E:=E) hb;have cM:=cW w.heap.size hx;have bp:=zh hp;have a7:=b0 cT hw;clear hw hb hx hp kR h0;go_wp2_with fail;by_cases hq:(E.tok (i+1)).k=1
  case neg=>
   replace hr:=bY hr hq;subst hr;refine (dV HE.o bp.o hq).mono ?_;rintro e wz ⟨rfl,hb⟩;go_wp2_with fail;exact ⟨rfl,a7.o.then_ hb,rfl⟩
  case pos=>
   replace hr:=bX hr hq;refine xP (dn HE.o bp.o hq) ?_;intro w2 hp hb hx ep hw;have bO:=k0 cM hw;have bn:=zh hp;have aE:=b0 a7 hw;clear cM bp a7 hw hb hx hp;have kS:=nN w2 (E.tok (i+1));clear hq;go_wp2_with fail;refine bF.mono ?_;rintro e w3 ⟨rfl,hb⟩;obtain ⟨hx,fK,hw⟩:=nX (E:=E) hb;have cC:=k0 bO hw;have nR:=n0 kS hw;have bD:=fN bn hb;have be:=b0 aE hw;clear bO kS bn aE hw hb hx;have NL:=nZ w3;go_wp2_with fail;refine bF.mono ?_;rintro e w4 ⟨rfl,hb⟩;obtain ⟨hx,iV,hw⟩:=nX (E:=E) hb;have cS:=k0 cC hw;have lw:=n0 nR hw;have pZ:=n0 NL hw;have bM:=fN bD hb;have bu:=b0 be hw;clear cC nR NL bD be hw hb hx;have se:=nZ w4;go_wp2_with fail;replace hr:=cZ hr;refine (bm (l:=[⟨#[61]⟩]) HE.o ((((bM.o.alloc _).alloc _).alloc _).alloc _) (aW (n:=w4.heap.size+3) [⟨#[61]⟩] (by simp) (by simp)) (ba (by simp))).mono ?_;rintro e w5 ⟨rfl,hb⟩;have hx:=rn (E:=E) hb;have jY:=hx.size;(try simp at jY);have hw:ay (Xs E []) w4 w5:=((((zb.alloc _).alloc _).alloc _).alloc _).trans hx xg;have cN:=k0 cS hw;have mj:Hd (aj w5 w4.heap.size 25 #[.int .i64 40,.int .i64 (E.tok (i+1)).fr,.int .i64 (E.tok (i+1)).to,.string (E.tok (i+1)).tx,.slice none 0 0]):=zh (((((aj.new' (by simp)).alloc _).alloc _).alloc _).but hx (ng (by omega)));have jP:=M3 (w4.heap.size+1) hx;have CO:=fJ (w4.heap.size+2) hx;have kD:=n0 lw hw;have qy:=n0 pZ hw;have pX:=n0 se hw;have bH:=zh (((((bM.o.alloc _).alloc _).alloc _).alloc _).below hb)
   have a8:=b0 bu hw;clear cS lw pZ se bM bu hw hb hx;by_cases hq:oneOf (E.tok (i+1+1)) [⟨#[61]⟩]=true
   ·
    rw [hq];(try rw [if_pos hq] at hr);clear hq;replace hr:=bJ hr;(try dsimp only at hr);go_wp2_with fail;by_cases hq:oneOf (E.tok (i+1+1)) [⟨#[61]⟩]=true
    ·
     replace hr:=aM hr hq;(try rw [if_pos rfl] at hr);refine qd (qG [⟨#[61]⟩] HE bH hq) ?_;intro w6 hp hb hx iK hw;obtain ⟨cJ,mi,gR,sU⟩:=jd cN mj jP CO hw;have kM:=n0 kD hw;have sP:=n0 qy hw;have gm:=n0 pX hw;have bC:=zh hp;have aR:=b0 a8 hw;clear cN mj jP CO kD qy pX bH a8 hw hb hx hp hq;go_wp2_with fail;obtain ⟨rx,h1,hr⟩:=ag hr;refine (bZ HE.o HF.o HO.o (by omega) h1 bC.o).mono ?_;rintro e w7 hp;rcases rx with p | ⟨x7,i7,b7⟩
     ·
      obtain ⟨hb,rfl⟩:=hp;cases hr;(try go_wp2_with fail);exact ⟨rfl,aR.o.trans hb mg,rfl⟩
     (try dsimp only at hr);obtain ⟨vB,rfl⟩:=zf ((expr_fin HE.o.wt HF.o (by omega) bC.o.ilt).2 _ _ h1);obtain ⟨hb,hp,v,rfl,A7,c7,rfl,ae⟩:=hp;(try dsimp only at hp ae);obtain ⟨fz,hw⟩:=ez hb;obtain ⟨cQ,nU,kj,pB⟩:=jd cJ mi gR sU hw;have lA:=n0 kM hw;have sg:=n0 sP hw;have ie:=n0 gm hw;have bR:=zh hp;have bf:=b0 aR hw;clear cJ mi gR sU kM sP gm bC aR hw;have sd:=zn (lo:=w6.heap.size) ae;clear ae hb hp h1;obtain ⟨jB,jA,jz,jy,jx,jw,ju⟩:=nU.o.cells5;obtain ⟨nC,nB,nA,nz,qQ,ny,nx⟩:=kj.o.cells5;obtain ⟨qL,qK,qJ,qI,pH,qg,qe⟩:=pB.o.cells5;go_wp2_with fail;refine (ak HE.o ((bR.o.f6).alloc _) (by omega)).mono ?_;rintro e w8 ⟨rfl,hb⟩;have hx:=rn (E:=E) hb;have lz:=hx.size;(try simp at lz);have hw:ay (Xs E [w4.heap.size+2]) w7 w8:=((zb.set5 (.inr (.inr (by simp))) _ _ _ _ _).alloc _).trans hx xg;have ek:=k1 cQ hw;have xH:=k1 nU hw;have tT:=k1 kj hw;have AH:Hd (aj w8 (w4.heap.size+2) 25 #[.int .i64 x7.k,.int .i64 x7.fr,.int .i64 x7.to,.string x7.tx,.slice A7 x7.ks.length c7]):=zh (((pB.o.p5).alloc _).but hx (ng (by omega)));have qD:=cW w7.heap.size hx;have qA:=n1 lA hw;have My:=n1 sg hw;have qM:=n1 ie hw;have QI:=n1 sd hw
     have dr:=zh (((bR.o.f6).alloc _).below hb);have dG:=b1 bf hw (by omega);clear jB jA jz jy jx jw ju nC nB nA nz qQ ny nx qL qK qJ qI pH qg qe cQ nU kj pB lA sg ie sd bR bf hw hb hx;obtain ⟨di,dh,de,dd,dc,db,da⟩:=ek.o.cells5;go_wp2_with fail;obtain rfl:=a6 hr;exact am (r:=w.heap.size) results77 (by rfl) ek.o.p5 (by rfl) ⟨dG.o.s5,dr.o.f6,_,rfl,_,_,rfl,aJ (n:=3) qD.o.f5 (aC.cons_ (zv (E:=E) qA) (aC.cons_ (zv (E:=E) My) (aC.one (zv (E:=E) QI)))) rfl (by decide) (⟨by omega,by simp <;> omega⟩)⟩
    ·
     replace hq:=Bool.eq_false_iff.2 hq;replace hr:=aN hr hq;(try rw [if_neg Bool.false_ne_true] at hr);refine eO (E:=E) (qH [⟨#[61]⟩] HE bH hq) ?_;intro w6 hb hx iK hw;obtain ⟨cJ,mi,gR,sU⟩:=jd cN mj jP CO hw;have kM:=n0 kD hw;have sP:=n0 qy hw;have gm:=n0 pX hw;have bC:=dX bH hb;have aR:=b0 a8 hw;clear cN mj jP CO kD qy pX bH a8 hw hb hx hq;replace hr:=bJ hr;(try dsimp only at hr);obtain ⟨jB,jA,jz,jy,jx,jw,ju⟩:=mi.o.cells5;obtain ⟨nC,nB,nA,nz,qQ,ny,nx⟩:=gR.o.cells5;obtain ⟨qL,qK,qJ,qI,pH,qg,qe⟩:=sU.o.cells5;go_wp2_with fail;refine eO (E:=E) (ak HE.o (bC.o.alloc _) (by omega)) ?_;intro w7 hb hx fz hw;obtain ⟨cQ,nU,kj,pB⟩:=jd cJ mi gR sU hw;have sW:=cW w6.heap.size hx;have lA:=n0 kM hw;have sg:=n0 sP hw;have ie:=n0 gm hw;have bR:=dX bC hb;have bf:=b0 aR hw;clear jB jA jz jy jx jw ju nC nB nA nz qQ ny nx qL qK qJ qI pH qg qe cJ mi gR sU kM sP gm bC aR hw hb hx;obtain ⟨di,dh,de,dd,dc,db,da⟩:=cQ.o.cells5;go_wp2_with fail;obtain rfl:=a6 hr
     exact am (r:=w.heap.size) results77 (by rfl) cQ.o.p5 (by rfl) ⟨bf.o.s5,bR.o.f6,_,rfl,_,_,rfl,aJ (n:=3) sW.o.f5 (aC.cons_ (zv (E:=E) lA) (aC.cons_ (zv (E:=E) sg) (aC.one (zv (E:=E) ie)))) rfl (by decide) (⟨by omega,by simp <;> omega⟩)⟩
   ·
    replace hq:=Bool.eq_false_iff.2 hq;rw [hq];(try rw [if_neg (Bool.eq_false_iff.1 hq)] at hr);clear hq;go_wp2_with fail;obtain ⟨rx,h1,hr⟩:=ag hr;refine (jI HE.o HF.o HO.o (by omega) h1 bH.o).mono ?_;rintro e w6 hp;rcases rx with p | ⟨x6,i6,b6⟩
    ·
     obtain ⟨hb,rfl⟩:=hp;cases hr;(try go_wp2_with fail);exact ⟨rfl,a8.o.trans hb mg,rfl⟩
    (try dsimp only at hr);obtain ⟨xj,rfl⟩:=zf ((gS HE.o.wt HF.o (by omega) bH.o.ilt).2 _ _ h1);obtain ⟨hb,hp,v,rfl,A6,c6,rfl,ae⟩:=hp;(try dsimp only at hp ae);obtain ⟨iK,hw⟩:=ez hb;obtain ⟨cJ,mi,gR,sU⟩:=jd cN mj jP CO hw;have kM:=n0 kD hw;have sP:=n0 qy hw;have gm:=n0 pX hw;have bC:=zh hp;have aR:=b0 a8 hw;clear cN mj jP CO kD qy pX bH a8 hw;have E2:=zn (lo:=w5.heap.size) ae;clear ae hb hp h1;obtain ⟨nC,nB,nA,nz,qQ,ny,nx⟩:=gR.o.cells5;go_wp2_with fail;go_wp2_with fail;by_cases hq:oneOf (E.tok i6) [⟨#[61]⟩]=true
    ·
     replace hr:=aM hr hq;(try rw [if_pos rfl] at hr);refine (mt (l:=[⟨#[61]⟩]) HE.o ((bC.o.f6).alloc _) (aW (n:=w6.heap.size) [⟨#[61]⟩] (by simp) (by simp)) (ba (by simp)) hq).mono ?_;rintro e w7 ⟨rfl,hp,hb⟩;have hx:=xm hb;have fz:=hx.size;(try simp at fz);have hw:ay (Xs E [w4.heap.size+1]) w6 w7:=((zb.set5 (.inr (.inr (by simp))) _ _ _ _ _).alloc _).trans hx xg;have cQ:=k1 cJ hw;have nU:=k1 mi hw;have kj:Hd (aj w7 (w4.heap.size+1) 25 #[.int .i64 x6.k,.int .i64 x6.fr,.int .i64 x6.to,.string x6.tx,.slice A6 x6.ks.length c6]):=zh (((gR.o.p5).alloc _).but hx (ng (by omega)));have pB:=k1 sU hw;have lA:=n1 kM hw;have sg:=n1 sP hw;have ie:=n1 gm hw;have CC:=n1 E2 hw;have bR:=zh hp;have bf:=b1 aR hw (by omega);clear nC nB nA nz qQ ny nx cJ mi gR sU kM sP gm E2 bC aR hw hb hx hp hq;go_wp2_with fail;obtain ⟨rx,h1,hr⟩:=ag hr;refine (bZ HE.o HF.o HO.o (by omega) h1 bR.o).mono ?_;rintro e w8 hp;rcases rx with p | ⟨x8,i8,b8⟩
     ·
      obtain ⟨hb,rfl⟩:=hp;cases hr;(try go_wp2_with fail);exact ⟨rfl,bf.o.trans hb mg,rfl⟩
     (try dsimp only at hr);obtain ⟨OZ,rfl⟩:=zf ((expr_fin HE.o.wt HF.o (by omega) bR.o.ilt).2 _ _ h1);obtain ⟨hb,hp,v,rfl,A8,c8,rfl,ae⟩:=hp;(try dsimp only at hp ae);obtain ⟨lz,hw⟩:=ez hb;obtain ⟨ek,xH,tT,AH⟩:=jd cQ nU kj pB hw;have qA:=n0 lA hw;have My:=n0 sg hw;have qM:=n0 ie hw;have Hi:=n0 CC hw;have dr:=zh hp;have dG:=b0 bf hw;clear cQ nU kj pB lA sg ie CC bR bf hw;have QI:=zn (lo:=w7.heap.size) ae;clear ae hb hp h1;obtain ⟨jB,jA,jz,jy,jx,jw,ju⟩:=xH.o.cells5;obtain ⟨nC,nB,nA,nz,qQ,ny,nx⟩:=tT.o.cells5;obtain ⟨qL,qK,qJ,qI,pH,qg,qe⟩:=AH.o.cells5;go_wp2_with fail;refine (ak HE.o ((dr.o.f6).alloc _) (by omega)).mono ?_;rintro e w9 ⟨rfl,hb⟩;have hx:=rn (E:=E) hb;have nY:=hx.size;(try simp at nY);have hw:ay (Xs E [w4.heap.size+2]) w8 w9:=((zb.set5 (.inr (.inr (by simp))) _ _ _ _ _).alloc _).trans hx xg;have fA:=k1 ek hw;have Hu:=k1 xH hw;have uL:=k1 tT hw;have TD:Hd (aj w9 (w4.heap.size+2) 25 #[.int .i64 x8.k,.int .i64 x8.fr,.int .i64 x8.to,.string x8.tx,.slice A8 x8.ks.length c8]):=zh (((AH.o.p5).alloc _).but hx (ng (by omega)));have P0:=cW w8.heap.size hx;have yv:=n1 qA hw;have QK:=n1 My hw
     have Il:=n1 qM hw;have XG:=n1 Hi hw;have Ld:=n1 QI hw;have d6:=zh (((dr.o.f6).alloc _).below hb);have eG:=b1 dG hw (by omega);clear jB jA jz jy jx jw ju nC nB nA nz qQ ny nx qL qK qJ qI pH qg qe ek xH tT AH qA My qM Hi QI dr dG hw hb hx;obtain ⟨di,dh,de,dd,dc,db,da⟩:=fA.o.cells5;go_wp2_with fail;obtain rfl:=a6 hr;exact am (r:=w.heap.size) results77 (by rfl) fA.o.p5 (by rfl) ⟨eG.o.s5,d6.o.f6,_,rfl,_,_,rfl,aJ (n:=3) P0.o.f5 (aC.cons_ (zv (E:=E) yv) (aC.cons_ (zv (E:=E) XG) (aC.one (zv (E:=E) Ld)))) rfl (by decide) (⟨by omega,by simp <;> omega⟩)⟩
    ·
     replace hq:=Bool.eq_false_iff.2 hq;replace hr:=aN hr hq;(try rw [if_neg Bool.false_ne_true] at hr);refine (o3 (l:=[⟨#[61]⟩]) HE.o ((bC.o.f6).alloc _) (aW (n:=w6.heap.size) [⟨#[61]⟩] (by simp) (by simp)) (ba (by simp)) hq).mono ?_;rintro e w7 ⟨rfl,hb⟩;have hx:=rn (E:=E) hb;have fz:=hx.size;(try simp at fz);have hw:ay (Xs E [w4.heap.size+1]) w6 w7:=((zb.set5 (.inr (.inr (by simp))) _ _ _ _ _).alloc _).trans hx xg;have cQ:=k1 cJ hw;have nU:=k1 mi hw;have kj:Hd (aj w7 (w4.heap.size+1) 25 #[.int .i64 x6.k,.int .i64 x6.fr,.int .i64 x6.to,.string x6.tx,.slice A6 x6.ks.length c6]):=zh (((gR.o.p5).alloc _).but hx (ng (by omega)));have pB:=k1 sU hw;have lA:=n1 kM hw;have sg:=n1 sP hw;have ie:=n1 gm hw;have CC:=n1 E2 hw;have bR:=zh (((bC.o.f6).alloc _).below hb);have bf:=b1 aR hw (by omega);clear nC nB nA nz qQ ny nx cJ mi gR sU kM sP gm E2 bC aR hw hb hx hq;replace hr:=bJ hr;(try dsimp only at hr);obtain ⟨jB,jA,jz,jy,jx,jw,ju⟩:=nU.o.cells5;obtain ⟨nC,nB,nA,nz,qQ,ny,nx⟩:=kj.o.cells5;obtain ⟨qL,qK,qJ,qI,pH,qg,qe⟩:=pB.o.cells5;go_wp2_with fail;refine eO (E:=E) (ak HE.o (bR.o.alloc _) (by omega)) ?_;intro w8 hb hx lz hw;obtain ⟨ek,xH,tT,AH⟩:=jd cQ nU kj pB hw;have qD:=cW w7.heap.size hx;have qA:=n0 lA hw;have My:=n0 sg hw
     have qM:=n0 ie hw;have Hi:=n0 CC hw;have dr:=dX bR hb;have dG:=b0 bf hw;clear jB jA jz jy jx jw ju nC nB nA nz qQ ny nx qL qK qJ qI pH qg qe cQ nU kj pB lA sg ie CC bR bf hw hb hx;obtain ⟨di,dh,de,dd,dc,db,da⟩:=ek.o.cells5;go_wp2_with fail;obtain rfl:=a6 hr;exact am (r:=w.heap.size) results77 (by rfl) ek.o.p5 (by rfl) ⟨dG.o.s5,dr.o.f6,_,rfl,_,_,rfl,aJ (n:=3) qD.o.f5 (aC.cons_ (zv (E:=E) qA) (aC.cons_ (zv (E:=E) Hi) (aC.one (zv (E:=E) qM)))) rfl (by decide) (⟨by omega,by simp <;> omega⟩)⟩
theorem oI (hE:eH E) (hF:GF E.ts G lo) (hO:OkG E G) (dA:lo≤i) (h0:(E.tok i).k≠7) {r:Except Int (No×Ps)} (hr:fx E.ts G (i,b)=some r) (h:PS E w i b):Calls prog 78 #[(.pointer (some ⟨E.g,0,none⟩))] w (cV E eh w (lp w) r):=by
  have fU:=h.glt;have ic:=h.lt;have iS:=hE.len;have eY:=h.ilt;have HP:=zh h;have HE:=zh hE;have cT:Hd (ay (fun k=>gX E k) w w):=zh zb;have HF:=zh hF;have HO:=zh hO;clear hF hO;clear h hE;have iM:=aO;have iT:=aU;have jf:=aT;have iL:=aS;go_enter func78,ntmps78;unfold fx at hr;replace hr:=gV hr;have kR:i+1<E.ts.length:=HE.o.wt.nxt _ eY h0;go_wp2_with fail;refine (dN HE.o (HP.o.alloc _) kR).mono ?_;rintro e w1 ⟨rfl,hp,hb⟩;simp only [cu];obtain ⟨hx,et,hw⟩:=Gh (E:=E) hb;have cM:=cW w.heap.size hx;have bp:=zh hp;have a7:=b0 cT hw;clear hw hb hx hp kR h0;go_wp2_with fail;by_cases hq:(E.tok (i+1)).k=1
  case neg=>
   replace hr:=bY hr hq;subst hr;refine (dV HE.o bp.o hq).mono ?_;rintro e wz ⟨rfl,hb⟩;go_wp2_with fail;exact ⟨rfl,a7.o.then_ hb,rfl⟩
  case pos=>
   replace hr:=bX hr hq;refine xP (dn HE.o bp.o hq) ?_;intro w2 hp hb hx ep hw;have bO:=k0 cM hw;have bn:=zh hp;have aE:=b0 a7 hw;clear cM bp a7 hw hb hx hp;have kS:=nN w2 (E.tok (i+1));clear hq;go_wp2_with fail;refine bF.mono ?_;rintro e w3 ⟨rfl,hb⟩;obtain ⟨hx,fK,hw⟩:=nX (E:=E) hb;have cC:=k0 bO hw;have nR:=n0 kS hw;have bD:=fN bn hb;have be:=b0 aE hw;clear bO kS bn aE hw hb hx;have NL:=nZ w3;go_wp2_with fail;replace hr:=cZ hr;refine (bm (l:=[⟨#[61]⟩]) HE.o (((bD.o.alloc _).alloc _).alloc _) (aW (n:=w3.heap.size+2) [⟨#[61]⟩] (by simp) (by simp)) (ba (by simp))).mono ?_;rintro e w4 ⟨rfl,hb⟩;have hx:=rn (E:=E) hb;have iV:=hx.size;(try simp at iV);have hw:ay (Xs E []) w3 w4:=(((zb.alloc _).alloc _).alloc _).trans hx xg;have cS:=k0 cC hw;have mq:=M3 w3.heap.size hx;have um:=fJ (w3.heap.size+1) hx;have lw:=n0 nR hw;have pZ:=n0 NL hw;have bM:=zh ((((bD.o.alloc _).alloc _).alloc _).below hb);have bu:=b0 be hw;clear cC nR NL bD be hw hb hx;by_cases hq:oneOf (E.tok (i+1+1)) [⟨#[61]⟩]=true
   ·
    rw [hq];(try rw [if_pos hq] at hr);clear hq;replace hr:=bJ hr;(try dsimp only at hr);go_wp2_with fail;by_cases hq:oneOf (E.tok (i+1+1)) [⟨#[61]⟩]=true
    case neg=>
     replace hq:=Bool.eq_false_iff.2 hq;replace hr:=aZ hr hq;subst hr;refine (ci (x:=⟨#[61]⟩) HE.o bM.o hq).mono ?_;rintro e wz ⟨rfl,hb⟩;go_wp2_with fail;exact ⟨rfl,bu.o.then_ hb,rfl⟩
    case pos=>
     replace hr:=aY hr hq;refine (bI (x:=⟨#[61]⟩) HE.o bM.o hq).mono ?_;rintro e w5 ⟨rfl,hp,hb⟩;simp only [cu];obtain ⟨hx,jY,hw⟩:=AB (E:=E) hb;obtain ⟨cN,mj,jP⟩:=fq cS mq um hw;have kD:=n0 lw hw;have qy:=n0 pZ hw;have bH:=zh hp;have a8:=b0 bu hw;clear cS mq um lw pZ bM bu hw hb hx hp hq;go_wp2_with fail;obtain ⟨rx,h1,hr⟩:=ag hr;refine (bZ HE.o HF.o HO.o (by omega) h1 bH.o).mono ?_;rintro e w6 hp;rcases rx with p | ⟨x6,i6,b6⟩
     ·
      obtain ⟨hb,rfl⟩:=hp;cases hr;(try go_wp2_with fail);exact ⟨rfl,a8.o.trans hb mg,rfl⟩
     (try dsimp only at hr);obtain ⟨xj,rfl⟩:=zf ((expr_fin HE.o.wt HF.o (by omega) bH.o.ilt).2 _ _ h1);obtain ⟨hb,hp,v,rfl,A6,c6,rfl,ae⟩:=hp;(try dsimp only at hp ae);obtain ⟨iK,hw⟩:=ez hb;obtain ⟨cJ,mi,gR⟩:=fq cN mj jP hw;have kM:=n0 kD hw;have sP:=n0 qy hw;have bC:=zh hp;have aR:=b0 a8 hw;clear cN mj jP kD qy bH a8 hw;have gm:=zn (lo:=w5.heap.size) ae;clear ae hb hp h1;obtain ⟨jB,jA,jz,jy,jx,jw,ju⟩:=mi.o.cells5;obtain ⟨nC,nB,nA,nz,qQ,ny,nx⟩:=gR.o.cells5;go_wp2_with fail;refine kT (E:=E) (ak HE.o ((bC.o.alloc _).alloc _) (by omega)) ?_;intro w7 hb hx fz hw;obtain ⟨cQ,nU,kj⟩:=fq cJ mi gR hw;have pB:=fJ w6.heap.size hx;have sW:=cW (w6.heap.size+1) hx;have lA:=n0 kM hw;have sg:=n0 sP hw;have ie:=n0 gm hw;have bR:=kG bC hb;have bf:=b0 aR hw;clear jB jA jz jy jx jw ju nC nB nA nz qQ ny nx cJ mi gR kM sP gm bC aR hw hb hx;obtain ⟨di,dh,de,dd,dc,db,da⟩:=cQ.o.cells5;go_wp2_with fail;obtain rfl:=a6 hr
     exact am (r:=w.heap.size) results78 (by rfl) cQ.o.p5 (by rfl) ⟨bf.o.s5,bR.o.f6,_,rfl,_,_,rfl,aJ (n:=3) sW.o.f5 (aC.cons_ (zv (E:=E) lA) (aC.cons_ (zv (E:=E) sg) (aC.one (zv (E:=E) ie)))) rfl (by decide) (⟨by omega,by simp <;> omega⟩)⟩
   ·
    replace hq:=Bool.eq_false_iff.2 hq;rw [hq];(try rw [if_neg (Bool.eq_false_iff.1 hq)] at hr);clear hq;go_wp2_with fail;obtain ⟨rx,h1,hr⟩:=ag hr;refine (jI HE.o HF.o HO.o (by omega) h1 bM.o).mono ?_;rintro e w5 hp;rcases rx with p | ⟨x5,i5,b5⟩
    ·
     obtain ⟨hb,rfl⟩:=hp;cases hr;(try go_wp2_with fail);exact ⟨rfl,bu.o.trans hb mg,rfl⟩
    (try dsimp only at hr);obtain ⟨O0,rfl⟩:=zf ((gS HE.o.wt HF.o (by omega) bM.o.ilt).2 _ _ h1);obtain ⟨hb,hp,v,rfl,A5,c5,rfl,ae⟩:=hp;(try dsimp only at hp ae);obtain ⟨jY,hw⟩:=ez hb;obtain ⟨cN,mj,jP⟩:=fq cS mq um hw;have kD:=n0 lw hw;have qy:=n0 pZ hw;have bH:=zh hp;have a8:=b0 bu hw;clear cS mq um lw pZ bM bu hw;have SS:=zn (lo:=w4.heap.size) ae;clear ae hb hp h1;obtain ⟨nC,nB,nA,nz,qQ,ny,nx⟩:=jP.o.cells5;go_wp2_with fail;go_wp2_with fail;by_cases hq:oneOf (E.tok i5) [⟨#[61]⟩]=true
    case neg=>
     replace hq:=Bool.eq_false_iff.2 hq;replace hr:=aZ hr hq;subst hr;refine (ci (x:=⟨#[61]⟩) HE.o bH.o.f6 hq).mono ?_;rintro e wz ⟨rfl,hb⟩;go_wp2_with fail;exact ⟨rfl,(a8.o.s5).then_ hb,rfl⟩
    case pos=>
     replace hr:=aY hr hq;refine (bI (x:=⟨#[61]⟩) HE.o bH.o.f6 hq).mono ?_;rintro e w6 ⟨rfl,hp,hb⟩;simp only [cu];have hx:=xm hb;have iK:=hx.size;(try simp at iK);have hw:ay (Xs E [w3.heap.size+1]) w5 w6:=(zb.set5 (.inr (.inr (by simp))) _ _ _ _ _).trans hx xg;have cJ:=k1 cN hw;have mi:=k1 mj hw;have gR:Hd (aj w6 (w3.heap.size+1) 25 #[.int .i64 x5.k,.int .i64 x5.fr,.int .i64 x5.to,.string x5.tx,.slice A5 x5.ks.length c5]):=zh ((jP.o.p5).but hx (ng (by omega)));have kM:=n1 kD hw;have sP:=n1 qy hw;have E2:=n1 SS hw;have bC:=zh hp;have aR:=b1 a8 hw (by omega);clear nC nB nA nz qQ ny nx cN mj jP kD qy SS bH a8 hw hb hx hp hq;go_wp2_with fail;obtain ⟨rx,h1,hr⟩:=ag hr;refine (bZ HE.o HF.o HO.o (by omega) h1 bC.o).mono ?_;rintro e w7 hp;rcases rx with p | ⟨x7,i7,b7⟩
     ·
      obtain ⟨hb,rfl⟩:=hp;cases hr;(try go_wp2_with fail);exact ⟨rfl,aR.o.trans hb mg,rfl⟩
     (try dsimp only at hr);obtain ⟨vB,rfl⟩:=zf ((expr_fin HE.o.wt HF.o (by omega) bC.o.ilt).2 _ _ h1);obtain ⟨hb,hp,v,rfl,A7,c7,rfl,ae⟩:=hp;(try dsimp only at hp ae);obtain ⟨fz,hw⟩:=ez hb;obtain ⟨cQ,nU,kj⟩:=fq cJ mi gR hw;have lA:=n0 kM hw;have sg:=n0 sP hw;have CC:=n0 E2 hw;have bR:=zh hp;have bf:=b0 aR hw;clear cJ mi gR kM sP E2 bC aR hw;have ie:=zn (lo:=w6.heap.size) ae;clear ae hb hp h1;obtain ⟨jB,jA,jz,jy,jx,jw,ju⟩:=nU.o.cells5;obtain ⟨nC,nB,nA,nz,qQ,ny,nx⟩:=kj.o.cells5;go_wp2_with fail;refine kT (E:=E) (ak HE.o ((bR.o.alloc _).alloc _) (by omega)) ?_;intro w8 hb hx lz hw;obtain ⟨ek,xH,tT⟩:=fq cQ nU kj hw;have AH:=fJ w7.heap.size hx;have qD:=cW (w7.heap.size+1) hx;have qA:=n0 lA hw;have My:=n0 sg hw;have Hi:=n0 CC hw;have qM:=n0 ie hw;have dr:=kG bR hb;have dG:=b0 bf hw;clear jB jA jz jy jx jw ju nC nB nA nz qQ ny nx cQ nU kj lA sg CC ie bR bf hw hb hx
     obtain ⟨di,dh,de,dd,dc,db,da⟩:=ek.o.cells5;go_wp2_with fail;obtain rfl:=a6 hr;exact am (r:=w.heap.size) results78 (by rfl) ek.o.p5 (by rfl) ⟨dG.o.s5,dr.o.f6,_,rfl,_,_,rfl,aJ (n:=3) qD.o.f5 (aC.cons_ (zv (E:=E) qA) (aC.cons_ (zv (E:=E) Hi) (aC.one (zv (E:=E) qM)))) rfl (by decide) (⟨by omega,by simp <;> omega⟩)⟩
theorem rL (hE:eH E) (hF:GF E.ts G lo) (hO:OkG E G) (dA:lo≤i) {kd fr:Int} {r:Except Int (No×Ps)} (hr:jp E.ts G kd fr (i,b)=some r) (h:PS E w i b):Calls prog 164 #[(.pointer (some ⟨E.g,0,none⟩)),.int .i64 kd,.int .i64 fr] w (cV E eh w (lp w) r):=by
  have fU:=h.glt;have ic:=h.lt;have iS:=hE.len;have eY:=h.ilt;have HP:=zh h;have HE:=zh hE;have cT:Hd (ay (fun k=>gX E k) w w):=zh zb;have HF:=zh hF;have HO:=zh hO;clear hF hO;clear h hE;have iM:=aO;have iT:=aU;have jf:=aT;have iL:=aS;go_enter func164,ntmps164;unfold jp at hr;go_wp2_with fail;obtain ⟨rx,h1,hr⟩:=ag hr;refine (pO HE.o HF.o HO.o (by omega) h1 (HP.o.alloc _)).mono ?_;rintro e w1 hp;rcases rx with p | ⟨x1,i1,b1⟩
  ·
   obtain ⟨hb,rfl⟩:=hp;cases hr;(try go_wp2_with fail);exact ⟨rfl,(cT.o.alloc _).trans hb mg,rfl⟩
  (try dsimp only at hr);obtain ⟨wN,rfl⟩:=zf ((oy HE.o.wt HF.o (by omega) eY).2 _ _ h1);obtain ⟨hb,hp,v,rfl,A1,c1,rfl,ae⟩:=hp;(try dsimp only at hp ae);have et:=hb.size;(try simp at et);have hw:ay (Xs E []) w w1:=(zb.alloc _).trans hb xg;have cM:=cW w.heap.size hb;have bp:=zh hp;have a7:=b0 cT hw;clear hw;have wR:=zn (lo:=(w.heap.size+1)) ae;clear ae hb hp h1;by_cases hk:x1.k=48
  ·
   rw [if_pos hk] at hr;(have fT:(x1.k != 48)=false:=by simpa using hk);clear hk;go_wp2_with fail;refine kT (E:=E) (ak HE.o ((bp.o.alloc _).alloc _) (by omega)) ?_;intro w2 hb hx ep hw;have bO:=k0 cM hw;have sj:=fJ w1.heap.size hx;have X0:=cW (w1.heap.size+1) hx;have kS:=n0 wR hw;have bn:=kG bp hb;have aE:=b0 a7 hw;clear cM wR bp a7 hw hb hx;obtain ⟨di,dh,de,dd,dc,db,da⟩:=bO.o.cells5;go_wp2_with fail;obtain rfl:=a6 hr;exact am (r:=w.heap.size) results164 (by rfl) bO.o.p5 (by rfl) ⟨aE.o.s5,bn.o.f6,_,rfl,_,_,rfl,aJ (n:=1) X0.o.f5 (aC.one (zv (E:=E) kS)) rfl (by decide) (⟨by omega,by simp <;> omega⟩)⟩
  ·
   rw [if_neg hk] at hr;(have fT:(x1.k != 48)=true:=by simpa using hk);clear hk;go_wp2_with fail;replace hr:=d_ hr;refine (cI HE.o (bp.o.alloc _)).mono ?_;rintro e wz ⟨rfl,hb⟩;subst hr;go_wp2_with fail;exact ⟨rfl,(a7.o.alloc _).then_ hb,rfl⟩
end
set_option maxRecDepth 100000
set_option maxHeartbeats 4000000
section
variable {E:Env} {G:Gr} {lo:Nat} {w:World} {i:Nat} {b:Bool} {S:Nat→Prop} {v:Value} {l:List No}
theorem aQ.cells_ (h:aQ w S v l) {j:Nat} (hj:j<l.length):∃ g o cap A c,v = .slice (some ⟨g,o,none⟩) l.length cap∧S g∧w.cell? ⟨g,o+j * 5,none⟩=some (.int .i64 l[j].k)∧w.cell? ⟨g,o+j * 5+1,none⟩=some (.int .i64 l[j].fr)∧w.cell? ⟨g,o+j * 5+2,none⟩=some (.int .i64 l[j].to)∧w.cell? ⟨g,o+j * 5+3,none⟩=some (.string l[j].tx)∧
    w.cell? ⟨g,o+j * 5+4,none⟩=some (.slice A l[j].ks.length c)∧bG w S l[j] [.int .i64 l[j].k,.int .i64 l[j].fr,.int .i64 l[j].to,.string l[j].tx,.slice A l[j].ks.length c]:=by
  obtain ⟨xs,⟨h1,B,cap,LW,h2,h3,h0,h4⟩,hn⟩:=h;obtain ⟨g,o,rfl,R',GZ⟩:=h4 (by omega);have hx:=hn.at_ j hj;obtain ⟨A,c,hc,-⟩:=hx.forms
  have hk:∀ k u,[Value.int .i64 l[j].k,.int .i64 l[j].fr,.int .i64 l[j].to,.string l[j].tx,.slice A l[j].ks.length c][k]? = some u→k<5→w.cell? ⟨g,o+j * 5+k,none⟩=some u:=by
    intro k u hu hk;rw [← hc,List.getElem?_take,if_pos hk,List.getElem?_drop] at hu;rw [Nat.add_assoc];exact GZ _ _ hu
  exact ⟨g,o,cap,A,c,LW,R',hk 0 _ rfl (by decide),hk 1 _ rfl (by decide),hk 2 _ rfl (by decide),hk 3 _ rfl (by decide),hk 4 _ rfl (by decide),hc ▸ hx⟩
theorem aQ.lim (h:aQ w S v l):l.length≤9223372036854775807:=by
  obtain ⟨xs,a,_⟩:=h;exact a.form.choose_spec.choose_spec.2
theorem dC (hr:aQ w S v l) (hS:Hg S w) (hl:l≠[]):Calls prog 185 #[(.pointer (some ⟨E.g,0,none⟩)),v] w fun e w'=>e = .returned (.agg #[.int .i64 65,.int .i64 (aB l).fr,.int .i64 (aB l).to,.string ⟨#[]⟩,v])∧Below w.heap.size w w':=by
  have h0:0<l.length:=List.length_pos_iff.2 hl;obtain ⟨g,o,cap,A,c,rfl,FQ,-,p1,-,-,-,-⟩:=hr.cells_ h0;obtain ⟨g2,o2,XA,A2,c2,e2,-,-,-,p2,-,-,-⟩:=hr.cells_ (j:=l.length - 1) (by omega);cases e2;have sE:=hS g FQ;have UW:=hr.lim
  have e1:(aB l).fr=l[0].fr:=by
    cases l with
    | nil=>exact absurd rfl hl
    | cons x t=>rfl
  have e2:(aB l).to=l[l.length - 1].to:=by
    show ((l.getLast?.map No.to).getD 0)=_
    rw [List.getLast?_eq_getElem?,List.getElem?_eq_getElem (by omega)];rfl
  rw [e1,e2];obtain ⟨x,hx⟩:∃ x,l[0].fr=x:=⟨_,rfl⟩;obtain ⟨y,hy⟩:∃ y,l[l.length - 1].to=y:=⟨_,rfl⟩;rw [hx] at p1 ⊢;rw [hy] at p2 ⊢;obtain ⟨n,hn⟩:∃ n,l.length=n:=⟨_,rfl⟩;rw [hn] at h0 UW p2 ⊢;clear hx hy e1 e2 hr hS FQ hl hn;obtain ⟨m,rfl⟩:∃ m,n=m+1:=⟨n - 1,by omega⟩;rw [show m+1 - 1=m from by omega] at p2;rw [show o+0 * 5+1=o+1 from by omega] at p1;go_enter func185,ntmps185;go_wp2_with fail
  go_region
  all_goals
    go_wp2_with fail;exact bodyPost_ret (v:=.agg #[.int .i64 65,.int .i64 x,.int .i64 y,.string ⟨#[]⟩,.slice (some ⟨g,o,none⟩) (m+1) cap]) (by simp [results,results185,go_sem]) rfl ⟨rfl,(aG _ _).drew⟩
theorem tv (hr:aQ w S v l) (hS:Hg S w):Calls prog 200 #[v] w fun e w'=>e = .returned (.bool (iB l))∧Below w.heap.size w w':=by
  obtain ⟨A0,c0,rfl⟩:=hr.form;have UW:=hr.lim;have HR:=zh hr;have HS:=zh hS;clear hr hS;go_enter func200,ntmps200;go_wp2_with fail
  go_loopg [7] l.length (fun m s7 wr=>∃ j:Nat,m=l.length - j∧j≤l.length∧s7 = .int .i64 j∧Hd (Below w.heap.size w wr)∧Hd (iB (l.drop j)=iB l))
  case atStart=>exact ⟨0,by simp,by omega,rfl,Below.refl _ _,by simp [Hd]⟩
  case round=>
    obtain ⟨j,rfl,hj,rfl,HB,HN⟩:=hrel;have hz:=HB.o.size;by_cases fs:j<l.length
    · obtain ⟨g,o,cp,A,c,hv,FQ,p0,p1,p2,p3,p4,-⟩:=(HR.o.keep (aI.of_below HB.o HS.o) (fun _ h=>h)).cells_ fs
      cases hv;(have sE:g<wr.heap.size:=by have:=HS.o g FQ;omega);have hj3:(j:Int)<(l.length:Int):=by omega
      have hN:iB (l.drop j)=(decide (l[j].k=40) && iB (l.drop (j+1))):=by
        rw [List.drop_eq_getElem_cons fs];rfl
      have MS:=zh (HN.o.symm.trans hN);clear FQ hN;by_cases hk:l[j].k=40
      · have fT:(l[j].k != 40)=false:=by simpa using hk
        have HK:=zh hk;clear hk;go_wp2_with fail
        go_roundg (l.length - (j+1))
        case measure=>omega
        case rel=>exact ⟨j+1,rfl,by omega,by go_num,HB.o.trans ((aG _ _).mono hz),by rw [MS.o,HK.o];simp [Hd]⟩
      · have fT:(l[j].k != 40)=true:=by simpa using hk
        have HK:=zh hk;clear hk;go_wp2_with fail;go_ret;exact ⟨by rw [MS.o,decide_eq_false HK.o];rfl,HB.o.trans ((aG _ _).mono hz)⟩
    · obtain rfl:j=l.length:=by omega
      have MS:Hd (iB l=true):=HN.o.symm.trans (by simp [iB]);clear fs hj;go_wp2_with fail;go_ret;exact ⟨by rw [MS.o];rfl,HB.o⟩
/-! ### expressions with commas between -/
theorem B0 {l:List No} {s:Ps}:∀ (f:Nat) (k:List No) (i:Nat) (b:Bool),k≠[]→jb E.ts G f k (i,b)=some (.ok (l,s))→l≠[]
  | 0,k,i,b,hk,h=>by cases h
  | f+1,k,i,b,hk,h=>by
    rw [jb] at h;by_cases hq:oneOf (E.tok i) [⟨#[44]⟩]=true
    · replace h:=aM h hq
      rw [if_pos rfl] at h;obtain ⟨rx,h1,h2⟩:=ag h;cases rx with
      | error p=>cases h2
      | ok a=>
        obtain ⟨x,i2,b2⟩:=a;exact B0 f _ i2 b2 (by simp) h2
    · replace h:=aN h (Bool.eq_false_iff.2 hq)
      rw [if_neg Bool.false_ne_true] at h;cases Option.some.inj h;exact hk
theorem LS.below_ {wr w1:World} {out:List No} {xs:List Value} (h:LS E eh (fun (_:Unit) _=>True) w wr i b () out v xs) (hb:Below wr.heap.size wr w1):LS E eh (fun (_:Unit) _=>True) w w1 i b () out v xs:=by
  have hz:=h.but.size;have et:=hb.size;exact ⟨h.ps.below hb,trivial,own_below h.own hb,h.nos.keep (aI.of_below hb fun k hk=>hk.2.1) fun k hk=>⟨hk.1,by omega,hk.2.2⟩,h.but.then_ hb,h.len⟩
theorem LS.alw {wr:World} {out:List No} {xs:List Value} {o:Obj} (h:LS E eh (fun (_:Unit) _=>True) w wr i b () out v xs):LS E eh (fun (_:Unit) _=>True) w (wr.alloc o) i b () out v xs:=h.below_ (aG _ _)
theorem LS.begin {w2:World} {x:No} {g:Nat} {cs:List Value} (fU:E.g<w.heap.size) (hb:ay (fun k=>k=E.g∨eh k) w w2) (cq:PS E w2 i b) (hx:bG w2 (Iv w.heap.size g) x cs) (hg:g=w2.heap.size) (hc:cs.length=5) (hi:1≤i) :
    LS E eh (fun (_:Unit) _=>True) w (w2.alloc (.cells cs.toArray 25)) i b () [x] (.slice (some ⟨g,0,none⟩) [x].length 1) cs:=by
  subst hg;have hz:=hb.size;refine ⟨cq.alloc _,trivial,?_,?_,hb.alloc _,by simp⟩
  · have:=fO (n:=1) (size:=5) (base:=w.heap.size) (aj.new w2 25 cs.toArray) hz (by simpa using hc) (by unfold maxLen;omega)
    simpa using this
  · refine aC.one (hx.keep (zr.al (Nat.le_refl _) _) fun k hk=>⟨hk.1,?_,?_⟩)
    · have:=hk.2;simp;omega
    · have:=hk.2;simp [Value.ownBlock];omega
theorem kf (hE:eH E) (hF:GF E.ts G lo) (hO:OkG E G) (dA:lo≤i) {r:Except Int (List No×Ps)} (hr:gI E.ts G (i,b)=some r) (h:PS E w i b):Calls prog 166 #[(.pointer (some ⟨E.g,0,none⟩))] w (cV E eh w (Kj w) r):=by
  have fU:=h.glt;have ic:=h.lt;have iS:=hE.len;have eY:=h.ilt;have HP:=zh h;have HE:=zh hE;have HF:=zh hF;have HO:=zh hO;clear h hE hF hO;unfold gI at hr;go_enter func166,ntmps166;go_wp2_with fail;obtain ⟨rx,h1,hr⟩:=ag hr;refine (bZ HE.o HF.o HO.o dA h1 HP.o).mono ?_;rintro e w1 ⟨cB,r_⟩;rcases rx with p | ⟨x1,i1,b1⟩
  · dsimp only at r_ hr
    subst r_;subst hr;go_wp2_with fail;exact ⟨rfl,cB,rfl⟩
  obtain ⟨D3,v,rfl,A1,c1,rfl,pS⟩:=r_;(try dsimp only at D3 pS hr);obtain ⟨wN,rfl⟩:=zf ((expr_fin HE.o.wt HF.o dA eY).2 _ _ h1);have iO:=zh (LS.begin fU cB D3 (bG.mk_ (n:=x1) (pS.keep zr fun k hk=>hk)) rfl rfl (by omega));have sX:=zh hr;clear cB D3 pS h1 hr;obtain ⟨i0,fL,ga,f_,fZ⟩:=info_parts dO;go_wp2_with fail
  go_loopg [3] (E.ts.length+1) (fun m s3 wr=>∃ (f i':Nat) (out:List No) (B:Option Addr) (c:Nat) (xs:List Value),m=f∧i<i'∧s3 = .slice B out.length c∧Hd (jb E.ts G f out (i',b)=some r)∧Hd (LS E eh (fun (_:Unit) _=>True) w wr i' b () out (.slice B out.length c) xs))
  case atStart=>exact ⟨E.ts.length+1,i1,[x1],some ⟨w1.heap.size,0,none⟩,1,_,rfl,by omega,rfl,sX.o,iO.o⟩
  case round=>
    obtain ⟨f,i',out,B,c,xs,rfl,yd,rfl,wF,HL⟩:=hrel;cases gk with
    | zero=>exact absurd wF.o (by simp [jb])
    | succ f=>
      have hr:=wF.o;rw [jb] at hr;have sB:=HL.o.ps.ilt;have eN:=HL.o.len;clear wF iO sX;by_cases hq:oneOf (E.tok i') [⟨#[44]⟩]=true
      case neg=>
        replace hq:=Bool.eq_false_iff.2 hq;replace hr:=aN hr hq;rw [if_neg (by decide)] at hr;obtain rfl:=ar hr;clear hr;go_wp2_with fail;refine (o3 (l:=[⟨#[44]⟩]) HE.o (HL.o.ps.alloc _) (jT (n:=wr.heap.size) rfl) (ba rfl) hq).mono ?_;rintro e w4 ⟨rfl,dB⟩;have jR:Hd (LS E eh (fun (_:Unit) _=>True) w w4 i' b () out (.slice B out.length c) xs):=zh (HL.o.alw.below_ dB);clear dB HL;go_wp2_with fail;go_ret;exact ⟨jR.o.but,jR.o.ps,_,rfl,B,c,rfl,jR.o.row⟩
      case pos=>
        replace hr:=aM hr hq;rw [if_pos rfl] at hr;have sk:=zh hr;clear hr;go_wp2_with fail;refine (mt (l:=[⟨#[44]⟩]) HE.o (HL.o.ps.alloc _) (jT (n:=wr.heap.size) rfl) (ba rfl) hq).mono ?_;rintro e w4 ⟨rfl,zG,dB⟩;have jR:=zh (LS.move (fun _ _ _ _ _=>trivial) (fun e=>e.elim) HL.o.alw (fun _ hk=>hk.elim) fU dB zG (by omega));have OY:=zG.ilt;clear zG dB HL;go_wp2_with fail;obtain ⟨rx,h1,hr⟩:=ag sk.o;refine (bZ HE.o HF.o HO.o (by omega) h1 jR.o.ps).mono ?_;rintro e w2 ⟨cK,jM⟩;rcases rx with p | ⟨x,i2,b2⟩
        · dsimp only at jM hr
          subst jM;subst hr;go_wp2_with fail;exact ⟨rfl,jR.o.but.trans cK (fun _ _ h=>h),rfl⟩
        obtain ⟨cq,v,rfl,A2,c2,rfl,ae⟩:=jM;dsimp only at hr cq ae;obtain ⟨sC,rfl⟩:=zf ((expr_fin HE.o.wt HF.o (by omega) OY).2 _ _ h1);have ep:=cK.size;have Ng:=jR.o.but.size;have r5:=zh hr;have aE:=zh cK;have bn:=zh cq;have AO:Hd (bG w2 (kE w4 w2) x [.int .i64 x.k,.int .i64 x.fr,.int .i64 x.to,.string x.tx,.slice A2 x.ks.length c2]):=zh (bG.mk_ ae)
        have nV:Hd (w2.ownsRow w.heap.size 25 5 (.slice B out.length c) out.length xs):=zh (bk jR.o.own fun k hk=>cK.block k (jR.o.own.lt k hk).2 (fun e=>by
          have h3:=(jR.o.own.lt k hk).1;rcases e with e | e
          · omega
          · exact e))
        clear hr cK cq ae h1 sk;go_wp2_with (at_builtin;refine au _ rfl _ _ 23 rfl w.heap.size 25 i0 _ 5 64 underlying23 fL ga f_ fZ rfl (by omega) (.slice B out.length c) out.length xs rfl (nV.o.alloc _) (fun k=>k=w2.heap.size) (.slice (some ⟨w2.heap.size,0,none⟩) 1 1) 1 [.int .i64 x.k,.int .i64 x.fr,.int .i64 x.to,.string x.tx,.slice A2 x.ks.length c2] rfl ((aj.new w2 _ _).row (n:=1) rfl (by unfold maxLen;omega) rfl) pu (by unfold maxLen;omega) (by omega) (by simp;omega) ?_);intro v' w3 aD hg bN cX;obtain ⟨B3,c3,rfl⟩:=cA aD;have lu:=zh (LS.step (fun _ _ _ _ _=>trivial) jR.o (fun _ hk=>hk.elim) fU ic aE.o bn.o (u2:=()) trivial AO.o (by omega) aD hg (by simpa using cX));clear aD hg bN cX nV AO aE bn jR;rw [show out.length+1=(out ++ [x]).length from by simp] at lu ⊢;go_wp2_with fail
        go_roundg f
        case measure=>omega
        case rel=>exact ⟨f,i2,out ++ [x],B3,c3,_,rfl,by omega,by simp,r5,lu⟩
end
end Go.Proofs.YtfmgdmeopakdaaaGreatDoor
