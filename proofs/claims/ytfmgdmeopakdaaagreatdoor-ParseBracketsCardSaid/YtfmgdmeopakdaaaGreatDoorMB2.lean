/- Parts of one proof. -/
import Derived.Test.YtfmgdmeopakdaaaGreatDoorMB1
set_option linter.unusedVariables false
set_option linter.unusedSimpArgs false
namespace Go.Proofs.YtfmgdmeopakdaaaGreatDoor
open Go Go.RowKit Tryz
set_option maxRecDepth 100000
set_option maxHeartbeats 2000000
section
variable {E:Env} {w:World} {i:Nat} {b:Bool}
theorem aQ.at_ {S:Nat→Prop} {v:Value} {ks:List No} (h:aQ w S v ks) {j:Nat} (hl:j<ks.length) :
    ∃ g o cap A c,v = .slice (some ⟨g,o,none⟩) ks.length cap∧S g∧
      w.cell? ⟨g,o+j * 5,none⟩=some (.int .i64 ks[j].k)∧w.cell? ⟨g,o+j * 5+1,none⟩=some (.int .i64 ks[j].fr)∧w.cell? ⟨g,o+j * 5+2,none⟩=some (.int .i64 ks[j].to)∧w.cell? ⟨g,o+j * 5+3,none⟩=some (.string ks[j].tx)∧w.cell? ⟨g,o+j * 5+4,none⟩=some (.slice A ks[j].ks.length c)∧
      bG w S ks[j] [.int .i64 ks[j].k,.int .i64 ks[j].fr,.int .i64 ks[j].to,.string ks[j].tx,.slice A ks[j].ks.length c]:=by
  obtain ⟨xs,⟨h1,A,cap,rfl,h2,h3,h0,h4⟩,ht⟩:=h;obtain ⟨g,o,rfl,cB,hc⟩:=h4 (by omega);have hr:=ht.at_ j hl;obtain ⟨A1,c1,e,_⟩:=hr.forms;rw [e] at hr
  have hx:∀ q u,[Value.int .i64 ks[j].k,.int .i64 ks[j].fr,.int .i64 ks[j].to,.string ks[j].tx,.slice A1 ks[j].ks.length c1][q]? = some u→w.cell? ⟨g,o+j * 5+q,none⟩=some u:=by
    intro q u hj;rw [← e,List.getElem?_take] at hj;split at hj
    · rw [List.getElem?_drop] at hj
      rw [Nat.add_assoc];exact hc _ _ hj
    · cases hj
  exact ⟨g,o,cap,A1,c1,rfl,cB,hx 0 _ rfl,hx 1 _ rfl,hx 2 _ rfl,hx 3 _ rfl,hx 4 _ rfl,hr⟩
theorem tc (hE:eH E) {σ:Type} {X:Nat→Prop} {I:σ→World→Prop} {one:σ→PM (No×σ)} {n lo:Nat} {first cap args:Array Value} (ho:One E X I one n args lo) (ha:first ++ cap=args)
    {u:σ} {r:Except Int ((No×σ)×Ps)} (hr:kV E.ts one u (i,b)=some r) (h:PS E w i b) (hu:I u w) (dA:lo≤i) (hX:∀ k,X k→k<w.heap.size) :
    Calls prog 139 #[(.pointer (some ⟨E.g,0,none⟩)),.func (.func n) first cap] w (cV E X w (fun w' x v=>lp w w' x.1 v∧I x.2 w') r):=by
  have fU:=h.glt;have ic:=h.lt;have iS:=hE.len;have eY:=h.ilt;have HP:=zh h;have HE:=zh hE;have HO:=zh ho;have HA:=zh ha;have HU:=zh hu;have HX:=zh hX;clear h hE ho ha hu hX;unfold kV at hr;replace hr:=EO hr;(try dsimp only at hr);go_enter func139,ntmps139;go_wp2_with fail;refine (tH HE.o (HP.o.alloc _)).mono ?_;rintro e w1 ⟨rfl,cB⟩;have et:=cB.size;simp at et;have cM:=zh ((aj.new w _ _).below cB (by simp));have bp:=zh ((HP.o.alloc _).below cB);have a7:Hd (Below w.heap.size w w1):=(aG _ _).trans (cB.mono (by simp));clear cB;go_wp2_with fail;obtain ⟨rx,h1,hr⟩:=ag hr;obtain ⟨W,hW⟩:∃ W,W=w1.alloc (.cells #[.int .i64 27,.int .i64 (E.tok i).fr,.int .i64 (E.tok i).fr,.string ⟨#[]⟩,.slice none 0 0] 25):=⟨_,rfl⟩;rw [← hW];(have Wp:w1.heap.size<W.heap.size:=by rw [hW];simp);(have Kn:Hd (aj W w1.heap.size 25 #[.int .i64 27,.int .i64 (E.tok i).fr,.int .i64 (E.tok i).fr,.string ⟨#[]⟩,.slice none 0 0]):=by rw [hW];exact aj.new _ _ _);(have Jp:Below w1.heap.size w1 W:=by rw [hW];exact aG _ _);have Ob:=zh (bp.o.below Jp);have KrW:=zh (cM.o.below Jp (by omega));have gM:Hd (Below w.heap.size w W):=a7.o.trans (Jp.mono (by omega));have HUW:=zh (HO.o.same _ _ _ HU.o fun k hk=>gM.o.block k (HX.o k hk));clear hW Jp bp cM a7;refine (iC HE.o HO.o HA.o h1 Ob.o HUW.o dA (by omega) (fun k hk=>by have:=HX.o k hk;have:=gM.o.size;omega)).mono ?_;rintro e w2 ⟨cK,jM⟩;rcases rx with p | ⟨⟨l,u2⟩,i2,b2⟩
  · dsimp only at jM hr
    subst jM;subst hr;go_wp2_with fail;exact ⟨rfl,(ay.of_below gM.o).trans cK (fun _ _ h=>h),rfl⟩
  · obtain ⟨cq,v,rfl,⟨A2,c2,rfl,ae⟩,hI⟩:=jM
    dsimp only at hr cq ae hI;obtain rfl:=ar hr;have ep:=cK.size
    have Nm:∀ k,w.heap.size≤k→¬ (k=E.g∨X k):=fun k hk e=>by
      rcases e with e | e
      · omega
      · have:=HX.o k e;omega
    have sj:=zh (Kn.o.but cK (Nm _ (by have:=gM.o.size;omega)));have bO:=zh (KrW.o.but cK (Nm _ (Nat.le_refl _)));have bn:=zh cq;have Db:=zh hI;have aE:Hd (ay (fun k=>k=E.g∨X k) w w2):=(ay.of_below gM.o).trans cK (fun _ _ h=>h);have pz:Hd (aQ w2 (Iv W.heap.size w2.heap.size) (.slice A2 l.length c2) l):=zh (ae.keep zr fun k hk=>hk);obtain ⟨jB,jA,jz,jy,jx,jw,ju⟩:=sj.o.cells5;obtain ⟨di,dh,de,dd,dc,db,da⟩:=bO.o.cells5;clear cK ae hI cq h1 Nm hr;(have gQ:¬ w1.heap.size=w.heap.size:=by omega);(have hww:w.heap.size<w1.heap.size:=by omega);rcases Nat.eq_zero_or_pos l.length with h0 | h0
    · obtain rfl:=List.eq_nil_of_length_eq_zero h0
      clear h0;go_wp2_with fail;refine am (r:=w.heap.size) results139 (by rfl) ((bO.o.far1 (by omega) _).p5) (by rfl) ⟨(aE.o.set1 (.inl (by omega)) _).set5 (.inl (Nat.le_refl _)) _ _ _ _ _,(bn.o.far1 (by omega) (by omega) _).f6,_,rfl,⟨_,_,rfl,?_⟩,?_⟩
      · exact pz.o.keep ((zr.set1 (by intro hk;have:=hk.1;omega) _).set5 (by intro hk;have:=hk.1;omega) _ _ _ _ _) fun k hk=>⟨by have:=hk.1;omega,by have:=hk.2;simp;omega⟩
      · exact HO.o.same _ _ _ Db.o fun k hk=>by
          have UY:=HX.o k hk;exact (((ay.refl (fun k=>w.heap.size≤k) w2).set1 (r:=w1.heap.size) (o:=4) (.inr (by omega)) _).set5 (r:=w.heap.size) (.inr (Nat.le_refl _)) _ _ _ _ _).block k (by omega) (by omega)
    · obtain ⟨j,hj⟩:∃ j,l.length=j+1:=⟨l.length - 1,by omega⟩
      obtain ⟨g,o,cp,A3,c3,hv,FQ,z0,z1,z2,z3,z4,-⟩:=pz.o.at_ (j:=j) (by omega);simp only [Value.slice.injEq] at hv;obtain ⟨rfl,-,rfl⟩:=hv;have L3:=FQ.1;have JB:=FQ.2;obtain ⟨x,hx⟩:∃ x,l[j]=x:=⟨_,rfl⟩
      have pT:(l.getLast?.map No.to).getD (E.tok i).fr=x.to:=by
        rw [List.getLast?_eq_getElem?,hj,Nat.add_sub_cancel,List.getElem?_eq_getElem (by omega),hx];rfl
      rw [hx] at z2;have HJ:=zh hj;have HL:=zh pT;(have kx:(l.length:Int) - 1=(j:Int):=by omega);(have UW:l.length≤9223372036854775807:=by obtain ⟨xs,a,_⟩:=pz.o;obtain ⟨_,_,_,h⟩:=a.form;exact h);(have hwr:wrap64 (j:Int)=(j:Int):=by unfold wrap64;omega);clear UW;(have Nr:j<l.length:=by omega);clear FQ z0 z1 z3 z4 hj hx pT;(have hgn:¬ w1.heap.size=g:=by omega);(have hgn2:¬ g=w1.heap.size:=by omega);go_wp2_with fail;refine am (r:=w.heap.size) results139 (by rfl) (((bO.o.far1 (by omega) _).far1 (by omega) _).p5) (by rfl) ⟨((aE.o.set1 (.inl (by omega)) _).set1 (.inl (by omega)) _).set5 (.inl (Nat.le_refl _)) _ _ _ _ _,((bn.o.far1 (by omega) (by omega) _).far1 (by omega) (by omega) _).f6,_,rfl,⟨some ⟨g,o,none⟩,c2,?_,?_⟩,?_⟩
      · simp only [De,No.k,No.fr,No.to,No.tx,No.ks]
        rw [show ((l.getLast?.map No.to).getD (E.tok i).fr)=x.to from HL.o];rfl
      · exact pz.o.keep (((zr.set1 (by intro hk;have:=hk.1;omega) _).set1 (by intro hk;have:=hk.1;omega) _).set5 (by intro hk;have:=hk.1;omega) _ _ _ _ _) fun k hk=>⟨by have:=hk.1;omega,by have:=hk.2;simp;omega⟩
      · exact HO.o.same _ _ _ Db.o fun k hk=>by
          have UY:=HX.o k hk;exact ((((ay.refl (fun k=>w.heap.size≤k) w2).set1 (r:=w1.heap.size) (o:=4) (.inr (by omega)) _).set1 (r:=w1.heap.size) (o:=2) (.inr (by omega)) _).set5 (r:=w.heap.size) (.inr (Nat.le_refl _)) _ _ _ _ _).block k (by omega) (by omega)
end
set_option maxRecDepth 100000
set_option maxHeartbeats 2000000
section
variable {E:Env} {G:Gr} {lo:Nat} {w:World} {i:Nat} {b:Bool}
theorem xn (hE:eH E) (hF:GF E.ts G lo) (hO:OkG E G) {cb pb:Nat} (Ig:cb≠E.g) (rv:pb≠E.g) (K9:cb≠E.a) (uc:pb≠E.a) (Nt:cb≠pb) {lk:Bool} {r:Except Int ((No×Bool)×Ps)} (hr:jg E.ts G lk (i,b)=some r) (h:PS E w i b) (hi:lo<i)
    (hc:aj w cb 9 #[.string (mG lk)]) (hp:aj w pb 49 #[(.pointer (some ⟨E.g,0,none⟩))]) :
    Calls prog 140 #[.pointer (some ⟨cb,0,none⟩),.pointer (some ⟨pb,0,none⟩)] w (cV E (fun k=>k=cb∨k=pb) w (fun w' x v=>lp w w' x.1 v∧aj w' cb 9 #[.string (mG x.2)]∧aj w' pb 49 #[(.pointer (some ⟨E.g,0,none⟩))]) r):=by
  have fU:=h.glt;have ic:=h.lt;have iS:=hE.len;have eY:=h.ilt;have FP:=hc.lt;have AD:=hp.lt;have HP:=zh h;have HE:=zh hE;have HF:=zh hF;have HO:=zh hO;have gj:=zh hc;have lx:=zh hp;have cT:Hd (ay (fun k=>k=E.g∨(k=cb∨k=pb)) w w):=zh zb;clear h hE hF hO hc hp;go_enter func140,ntmps140;unfold jg at hr;cases lk
  case true=>
   replace gj:Hd (aj w cb 9 #[.string ⟨#[46,46,46]⟩]):=gj;rw [if_pos rfl] at hr;replace hr:=d_ hr;obtain ⟨gL,gK,gJ⟩:=gj.o.c1;obtain ⟨bg,bi,bh⟩:=lx.o.c1;go_wp2_with fail;refine (cI HE.o (HP.o.alloc _)).mono ?_;rintro e wz ⟨rfl,hb⟩;subst hr;go_wp2_with fail;exact ⟨rfl,(cT.o.alloc _).then_ hb,rfl⟩
  case false=>
   replace gj:Hd (aj w cb 9 #[.string ⟨#[]⟩]):=gj;rw [if_neg (by decide)] at hr;obtain ⟨gL,gK,gJ⟩:=gj.o.c1;obtain ⟨bg,bi,bh⟩:=lx.o.c1;go_wp2_with fail;by_cases hq:oneOf (E.tok i) [⟨#[46,46,46]⟩]=true
   ·
    replace hr:=aM hr hq;(try rw [if_pos rfl] at hr);refine K4 (K2 [⟨#[46,46,46]⟩] HE HP hq) ?_;intro w1 hp hb hx et hw;obtain ⟨jH,d5⟩:=dJ gj lx hw;have cM:=fJ w.heap.size hx;have bp:=zh hp;have a7:=b0 cT hw;clear gL gK gJ bg bi bh gj lx hw hb hx hp;obtain ⟨gL,gK,gJ⟩:=jH.o.c1;obtain ⟨bg,bi,bh⟩:=d5.o.c1;go_wp2_with fail;obtain ⟨rx,h1,hr⟩:=ag hr;refine (HO.o.typ h1 (bp.o.far1 (by omega) (by omega) _)).mono ?_;rintro e w2 hp;rcases rx with p | ⟨x2,i2,b2⟩
    ·
     obtain ⟨hb,rfl⟩:=hp;cases hr;(try go_wp2_with fail);exact ⟨rfl,(a7.o.set1 (.inr (.inr (.inl rfl))) _).trans hb mg,rfl⟩
    (try dsimp only at hr);obtain ⟨sC,rfl⟩:=zf ((HF.o.typ _ _ (by omega) bp.o.ilt).2 _ _ h1);obtain ⟨hb,hp,v,rfl,A2,c2,rfl,ae⟩:=hp;(try dsimp only at hp ae);have ep:=hb.size;(try simp at ep);have hw:ay (Xs E [cb]) w1 w2:=(zb.set1 (.inr (.inr (by simp))) _).trans hb xg;have iq:Hd (aj w2 cb 9 #[.string ⟨#[46,46,46]⟩]):=zh ((jH.o.put1 _).but hb (ng (by omega)));have dU:=k1 d5 hw;have bO:=k1 cM hw;have bn:=zh hp;have aE:=YtfmgdmeopakdaaaGreatDoor.b2 a7 hw (by simp <;> omega);clear gL gK gJ bg bi bh jH d5 cM bp a7 hw;have QL:=zn (lo:=w1.heap.size) ae;clear ae hb hp h1;obtain ⟨di,dh,de,dd,dc,db,da⟩:=bO.o.cells5;go_wp2_with fail;obtain rfl:=ar hr;exact am (r:=w.heap.size) results140 (by rfl) bO.o.p5 (by rfl) ⟨aE.o.s5,bn.o.f6,_,rfl,⟨⟨_,_,rfl,(zv (E:=E) QL).row_⟩,iq.o.f5,dU.o.f5⟩⟩
   ·
    replace hq:=Bool.eq_false_iff.2 hq;replace hr:=aN hr hq;(try rw [if_neg Bool.false_ne_true] at hr);refine kT (E:=E) (K3 [⟨#[46,46,46]⟩] HE HP hq) ?_;intro w1 hb hx et hw;obtain ⟨jH,d5⟩:=dJ gj lx hw;have cM:=fJ w.heap.size hx;have bp:=kG HP hb;have a7:=b0 cT hw;clear gL gK gJ bg bi bh gj lx hw hb hx;obtain ⟨gL,gK,gJ⟩:=jH.o.c1;obtain ⟨bg,bi,bh⟩:=d5.o.c1;go_wp2_with fail;obtain ⟨rx,h1,hr⟩:=ag hr;refine (HO.o.typ h1 bp.o).mono ?_;rintro e w2 hp;rcases rx with p | ⟨x2,i2,b2⟩
    ·
     obtain ⟨hb,rfl⟩:=hp;cases hr;(try go_wp2_with fail);exact ⟨rfl,a7.o.trans hb mg,rfl⟩
    (try dsimp only at hr);obtain ⟨sC,rfl⟩:=zf ((HF.o.typ _ _ (by omega) bp.o.ilt).2 _ _ h1);obtain ⟨hb,hp,v,rfl,A2,c2,rfl,ae⟩:=hp;(try dsimp only at hp ae);obtain ⟨ep,hw⟩:=ez hb;obtain ⟨iq,dU,bO⟩:=fq jH d5 cM hw;have bn:=zh hp;have aE:=b0 a7 hw;clear gL gK gJ bg bi bh jH d5 cM bp a7 hw;have QL:=zn (lo:=w1.heap.size) ae;clear ae hb hp h1;obtain ⟨di,dh,de,dd,dc,db,da⟩:=bO.o.cells5;go_wp2_with fail;obtain rfl:=ar hr;exact am (r:=w.heap.size) results140 (by rfl) bO.o.p5 (by rfl) ⟨aE.o.s5,bn.o.f6,_,rfl,⟨⟨_,_,rfl,(zv (E:=E) QL).row_⟩,iq.o.f5,dU.o.f5⟩⟩
theorem vM (args:Array Value) (w:World):(callFunc 140 args).run prog w = .ok (.enter 140 args) w:=by kernel_rfl
theorem BW (hE:eH E) (hF:GF E.ts G lo) (hO:OkG E G) {cb pb:Nat} (Ig:cb≠E.g) (rv:pb≠E.g) (K9:cb≠E.a) (uc:pb≠E.a) (Nt:cb≠pb) :
    One E (fun k=>k=cb∨k=pb) (fun lk w=>aj w cb 9 #[.string (mG lk)]∧aj w pb 49 #[(.pointer (some ⟨E.g,0,none⟩))]) (jg E.ts G) 140 #[.pointer (some ⟨cb,0,none⟩),.pointer (some ⟨pb,0,none⟩)] (lo+1) where
  call _ _ _ _ _ dA cq hI hr:=xn hE hF hO Ig rv K9 uc Nt hr cq dA hI.1 hI.2
  fine u _ _ dA hi:=oF hE.wt hF dA hi u
  same _ _ _ h k:=⟨(k cb (.inl rfl)).trans h.1,(k pb (.inr rfl)).trans h.2⟩
  notg e:=by rcases e with e | e;exact Ig e.symm;exact rv e.symm
  ent w:=vM _ w
theorem vH (hE:eH E) (hF:GF E.ts G lo) (hO:OkG E G) (dA:lo≤i) {fr:Int} {r:Except Int (No×Ps)} (hr:fW E.ts G fr (i,b)=some r) (h:PS E w i b):Calls prog 101 #[(.pointer (some ⟨E.g,0,none⟩)),.int .i64 fr] w (cV E eh w (lp w) r):=by
  have fU:=h.glt;have ic:=h.lt;have iS:=hE.len;have eY:=h.ilt;have HP:=zh h;have HE:=zh hE;have cT:Hd (ay (fun k=>gX E k) w w):=zh zb;have HF:=zh hF;have HO:=zh hO;clear hF hO;clear h hE;have iM:=aO;have iT:=aU;have jf:=aT;have iL:=aS;go_enter func101,ntmps101;unfold fW at hr;go_wp2_with fail;by_cases hq:oneOf (E.tok i) [⟨#[40]⟩]=true
  case neg=>
   replace hq:=Bool.eq_false_iff.2 hq;replace hr:=aZ hr hq;subst hr;refine (ci (x:=⟨#[40]⟩) HE.o ((HP.o.alloc _).alloc _) hq).mono ?_;rintro e wz ⟨rfl,hb⟩;go_wp2_with fail;exact ⟨rfl,((cT.o.alloc _).alloc _).then_ hb,rfl⟩
  case pos=>
   replace hr:=aY hr hq;refine (bI (x:=⟨#[40]⟩) HE.o ((HP.o.alloc _).alloc _) hq).mono ?_;rintro e w1 ⟨rfl,hp,hb⟩;simp only [cu];obtain ⟨hx,et,hw⟩:=Uy (E:=E) hb;have d5:=fJ w.heap.size hx;have cM:=cW (w.heap.size+1) hx;have bp:=zh hp;have a7:=b0 cT hw;clear hw hb hx hp hq;obtain ⟨bg,bi,bh⟩:=d5.o.c1;go_wp2_with fail;obtain ⟨rx,h1,hr⟩:=ag hr;refine (tc (X:=fun k=>k=w1.heap.size∨k=w.heap.size) (I:=fun lk w'=>aj w' w1.heap.size 9 #[.string (mG lk)]∧aj w' w.heap.size 49 #[(.pointer (some ⟨E.g,0,none⟩))]) (lo:=lo+1) HE.o (BW HE.o HF.o HO.o (by omega) (by omega) (by omega) (by omega) (by omega)) rfl h1 (bp.o.alloc _) ⟨(aj.new' (by simp)),(d5.o.alloc _)⟩ (by omega) (fun k hk=>by rcases hk with e | e <;> (simp;omega))).mono ?_;rintro e w2 hp;rcases rx with p | ⟨⟨x2,u2⟩,i2,b2⟩
   ·
    obtain ⟨hb,rfl⟩:=hp;cases hr;(try go_wp2_with fail);exact ⟨rfl,(a7.o.alloc _).trans hb (fun k hk h=>by rcases h with h | h | h;exact .inl h;all_goals first | exact h.elim | exact .inr h | exact .inr (.inl h) | (exfalso;omega)),rfl⟩
   (try dsimp only at hr);obtain ⟨sC,rfl⟩:=zf ((oY HE.o.wt (fun u j hj h=>oF HE.o.wt HF.o (by omega) h u) bp.o.ilt).2 _ _ h1);obtain ⟨hb,hp,v,rfl,⟨A2,c2,rfl,ae⟩,hI⟩:=hp;(try dsimp only at hp ae hI);have ep:=hb.size;(try simp at ep);have hw:ay (Xs E [w1.heap.size,w.heap.size]) w1 w2:=(zb.alloc _).trans hb (fun k _ h=>by rcases h with h | h | h <;> simp [Xs,h]);have bO:=k2 cM hw (by omega) (by simp <;> omega);have bn:=zh hp;have aE:=YtfmgdmeopakdaaaGreatDoor.b2 a7 hw (by simp <;> omega);clear bg bi bh d5 cM bp a7 hw;have pz:=zn (lo:=(w1.heap.size+1)) ae;clear ae hb hp h1;have iq:Hd (aj w2 w1.heap.size 9 #[.string (mG u2)]):=zh (hI.1);have dU:Hd (aj w2 w.heap.size 49 #[(.pointer (some ⟨E.g,0,none⟩))]):=zh (hI.2);clear hI;obtain ⟨bg,bi,bh⟩:=dU.o.c1;go_wp2_with fail;by_cases hq:oneOf (E.tok i2) [⟨#[41]⟩]=true
   case neg=>
    replace hq:=Bool.eq_false_iff.2 hq;replace hr:=aZ hr hq;subst hr;refine (ci (x:=⟨#[41]⟩) HE.o (bn.o.alloc _) hq).mono ?_;rintro e wz ⟨rfl,hb⟩;go_wp2_with fail;exact ⟨rfl,(aE.o.alloc _).then_ hb,rfl⟩
   case pos=>
    replace hr:=aY hr hq;refine (bI (x:=⟨#[41]⟩) HE.o (bn.o.alloc _) hq).mono ?_;rintro e w3 ⟨rfl,hp,hb⟩;simp only [cu];obtain ⟨hx,fK,hw⟩:=Gh (E:=E) hb;obtain ⟨cC,oV,eQ⟩:=fq bO iq dU hw;have Gb:=cW w2.heap.size hx;have uj:=n0 pz hw;have bD:=zh hp;have be:=b0 aE hw;clear bg bi bh bO iq dU pz bn aE hw hb hx hp hq;obtain ⟨bg,bi,bh⟩:=eQ.o.c1;go_wp2_with fail;obtain ⟨rx,h1,hr⟩:=ag hr;refine (bL HE.o HF.o HO.o (by omega) h1 bD.o).mono ?_;rintro e w4 hp;rcases rx with p | ⟨x4,i4,b4⟩
    ·
     obtain ⟨hb,rfl⟩:=hp;cases hr;(try go_wp2_with fail);exact ⟨rfl,be.o.trans hb mg,rfl⟩
    (try dsimp only at hr);obtain ⟨Ea,rfl⟩:=zf ((bK HE.o.wt HF.o (by omega) bD.o.ilt).2 _ _ h1);obtain ⟨hb,hp,v,rfl,A4,c4,rfl,ae⟩:=hp;(try dsimp only at hp ae);obtain ⟨iV,hw⟩:=ez hb;obtain ⟨cS,rX,fC,Au⟩:=jd cC oV eQ Gb hw;have xD:=n0 uj hw;have bM:=zh hp;have bu:=b0 be hw;clear bg bi bh cC oV eQ Gb uj bD be hw;have S5:=zn (lo:=w3.heap.size) ae;clear ae hb hp h1;obtain ⟨bg,bi,bh⟩:=fC.o.c1;obtain ⟨gL,gK,gJ⟩:=rX.o.c1;obtain ⟨r8,C6,wL,wK,C5,xh,xe⟩:=Au.o.cells5;go_wp2_with fail;refine kT (E:=E) (ak HE.o ((bM.o.alloc _).alloc _) (by omega)) ?_;intro w5 hb hx jY hw;obtain ⟨cN,Ge,fy,yA⟩:=jd cS rX fC Au hw;have Kr25:=fJ w4.heap.size hx;have nq:=cW (w4.heap.size+1) hx;have wv:=n0 xD hw;have XM:=n0 S5 hw;have bH:=kG bM hb;have a8:=b0 bu hw;clear bg bi bh gL gK gJ r8 C6 wL wK C5 xh xe cS rX fC Au xD S5 bM bu hw hb hx;obtain ⟨di,dh,de,dd,dc,db,da⟩:=cN.o.cells5;go_wp2_with fail;obtain rfl:=a6 hr
    exact am (r:=w.heap.size+1) results101 (by rfl) ((cN.o.p5).alloc _) (by rfl) ⟨((a8.o.s5).alloc _),((bH.o.f6).alloc _),_,rfl,_,_,rfl,aJ (n:=2) ((nq.o.f5).alloc _) (aC.cons_ (nk wv ((zr.set5 (iv (by omega)) _ _ _ _ _).za _) (by omega) (by first|omega|simp<;>omega)) (aC.one (nk XM ((zr.set5 (iv (by omega)) _ _ _ _ _).za _) (by omega) (by first|omega|simp<;>omega)))) rfl (by decide) (⟨by omega,by simp <;> omega⟩)⟩
end
set_option maxRecDepth 100000
set_option maxHeartbeats 2000000
theorem cG {fn:Func} {R:Ending→World→Prop} {a:Act} {W:World} {r k m:Nat} {q:Bool} {u0 u1 u2 u3 u4:Value} (iR:fn.results = #[.cell k 25,.tmp m]) (hs:a.tmps[k]?.getD undef = .pointer (some ⟨r,0,none⟩)) (hq:a.tmps[m]?.getD undef = .bool q)
    (hB:aj W r 25 #[u0,u1,u2,u3,u4]) (hd:a.defers=[]) (hR:R (.returned (.tuple #[.agg #[u0,u1,u2,u3,u4],.bool q])) W):bodyPost prog fn R .ret a W:=by
  obtain ⟨r0,r1,r2,r3,r4,rf,rl⟩:=hB.cells5;refine bodyPost_ret ?_ hd hR;simp [results,iR,hs,hq,go_sem,r0,r1,r2,r3,r4]
section
variable {E:Env} {G:Gr} {lo:Nat} {w:World} {i:Nat} {b:Bool}
theorem BZ (hE:eH E) (hF:GF E.ts G lo) (hO:OkG E G) (dA:lo<i) {r:Except Int ((No×Bool)×Ps)} (hr:l_ E.ts G (i,b)=some r) (h:PS E w i b):Calls prog 103 #[(.pointer (some ⟨E.g,0,none⟩))] w (cV E eh w (QM w) r):=by
  have fU:=h.glt;have ic:=h.lt;have iS:=hE.len;have eY:=h.ilt;have HP:=zh h;have HE:=zh hE;have cT:Hd (ay (fun k=>gX E k) w w):=zh zb;have HF:=zh hF;have HO:=zh hO;clear hF hO;clear h hE;have iM:=aO;have iT:=aU;have jf:=aT;have iL:=aS;go_enter func103,ntmps103;unfold l_ at hr;replace hr:=eu hr;go_wp2_with fail;refine eO (E:=E) (cY HE.o (HP.o.alloc _)) ?_;intro w1 hb hx et hw;have cM:=cW w.heap.size hx;have bp:=dX HP hb;have a7:=b0 cT hw;clear hw hb hx;go_wp2_with fail;by_cases hq:(E.tok i).k=1
  case neg=>
   replace hr:=bY hr hq;subst hr;refine (dV HE.o bp.o hq).mono ?_;rintro e wz ⟨rfl,hb⟩;go_wp2_with fail;exact ⟨rfl,a7.o.then_ hb,rfl⟩
  case pos=>
   replace hr:=bX hr hq;refine xP (dn HE.o bp.o hq) ?_;intro w2 hp hb hx ep hw;have bO:=k0 cM hw;have bn:=zh hp;have aE:=b0 a7 hw;clear cM bp a7 hw hb hx hp;have kS:=nN w2 (E.tok i);clear hq;replace hr:=bW hr;go_wp2_with fail;refine kT (E:=E) (bm (l:=[⟨#[46]⟩]) HE.o ((bn.o.alloc _).alloc _) (aW (n:=w2.heap.size+1) [⟨#[46]⟩] (by simp) (by simp)) (ba (by simp))) ?_;intro w3 hb hx fK hw;have cC:=k0 bO hw;have pD:=fJ w2.heap.size hx;have nR:=n0 kS hw;have bD:=kG bn hb;have be:=b0 aE hw;clear bO kS bn aE hw hb hx;by_cases hq:oneOf (E.tok (i+1)) [⟨#[46]⟩]=true
   ·
    rw [hq];(try rw [if_pos hq] at hr);replace hr:=sM hr;rw [Nat.add_sub_cancel] at hr;obtain ⟨nb,rF,rE,na,m_⟩:=bD.o.cells;go_wp2_with fail;obtain ⟨rx,h1,hr⟩:=ag hr;refine (iX HE.o h1 (bD.o.set1 (j:=i) eY)).mono ?_;rintro e w4 hp;rcases rx with p | ⟨x4,i4,b4⟩
    ·
     obtain ⟨hb,rfl⟩:=hp;cases hr;(try go_wp2_with fail);exact ⟨rfl,(be.o.set_ (p:=⟨E.g,1,none⟩) (.inr (.inl rfl)) _).trans hb mg,rfl⟩
    (try dsimp only at hr);obtain ⟨Ea,rfl⟩:=zf ((mO HE.o.wt eY).2 _ _ h1);obtain ⟨hb,hp,v,rfl,A4,c4,rfl,ae⟩:=hp;(try dsimp only at hp ae);have iV:=hb.size;(try simp at iV);have hw:ay (Xs E []) w3 w4:=(zb.set_ (p:=⟨E.g,1,none⟩) (.inr (.inl rfl)) _).trans hb xg;obtain ⟨cS,mq⟩:=dJ cC pD hw;have lw:=n0 nR hw;have bM:=zh hp;have bu:=b0 be hw;clear nb rF rE na m_ cC pD nR bD be hw;have pZ:=zn (lo:=w3.heap.size) ae;clear ae hb hp h1;go_wp2_with fail;refine kT (E:=E) (ak HE.o ((bM.o.alloc _).alloc _) (by omega)) ?_;intro w5 hb hx jY hw;obtain ⟨cN,mj⟩:=dJ cS mq hw;have jP:=fJ w4.heap.size hx;have nq:=cW (w4.heap.size+1) hx;have kD:=n0 lw hw;have qy:=n0 pZ hw;have bH:=kG bM hb;have a8:=b0 bu hw;clear cS mq lw pZ bM bu hw hb hx;obtain ⟨di,dh,de,dd,dc,db,da⟩:=cN.o.cells5;go_wp2_with fail;replace hr:=bv hr;obtain rfl:=ar hr;exact cG (r:=w.heap.size) (q:=true) results103 (by rfl) (by rfl) cN.o.p5 (by rfl) ⟨a8.o.s5,bH.o.f6,_,rfl,_,_,rfl,aJ (n:=1) nq.o.f5 (aC.one (zv (E:=E) qy)) rfl (by decide) (⟨by omega,by simp <;> omega⟩)⟩
   ·
    replace hq:=Bool.eq_false_iff.2 hq;rw [hq];(try rw [if_neg (Bool.eq_false_iff.1 hq)] at hr);have Vo:=zh hq;clear hq;go_wp2_with fail;refine eO (E:=E) (bm (l:=[⟨#[125]⟩]) HE.o (bD.o.alloc _) (aW (n:=w3.heap.size) [⟨#[125]⟩] (by simp) (by simp)) (ba (by simp))) ?_;intro w4 hb hx iV hw;obtain ⟨cS,mq⟩:=dJ cC pD hw;have lw:=n0 nR hw;have bM:=dX bD hb;have bu:=b0 be hw;clear cC pD nR bD be hw hb hx;by_cases hq:oneOf (E.tok (i+1)) [⟨#[125]⟩]=true
    ·
     rw [hq];(try rw [if_pos hq] at hr);rw [if_pos (.inl hq)] at hr;clear hq;obtain ⟨jB,jA,jz,jy,jx,jw,ju⟩:=mq.o.cells5;go_wp2_with fail;refine eO (E:=E) (ak HE.o (bM.o.alloc _) (by omega)) ?_;intro w5 hb hx jY hw;obtain ⟨cN,mj⟩:=dJ cS mq hw;have nq:=cW w4.heap.size hx;have kD:=n0 lw hw;have bH:=dX bM hb;have a8:=b0 bu hw;clear jB jA jz jy jx jw ju cS mq lw bM bu hw hb hx;obtain ⟨di,dh,de,dd,dc,db,da⟩:=cN.o.cells5;go_wp2_with fail;replace hr:=bv hr;obtain rfl:=ar hr;exact cG (r:=w.heap.size) (q:=true) results103 (by rfl) (by rfl) cN.o.p5 (by rfl) ⟨a8.o.s5,bH.o.f6,_,rfl,_,_,rfl,aJ (n:=1) nq.o.f5 (aC.one (zv (E:=E) kD)) rfl (by decide) (⟨by omega,by simp <;> omega⟩)⟩
    ·
     replace hq:=Bool.eq_false_iff.2 hq;rw [hq];(try rw [if_neg (Bool.eq_false_iff.1 hq)] at hr);have HQ1:=zh hq;clear hq;go_wp2_with fail;refine (bT HE.o bM.o).mono ?_;rintro e w5 ⟨rfl,hb⟩;simp only [cu];obtain ⟨hx,jY,hw⟩:=nX (E:=E) hb;obtain ⟨cN,mj⟩:=dJ cS mq hw;have kD:=n0 lw hw;have bH:=fN bM hb;have a8:=b0 bu hw;clear cS mq lw bM bu hw hb hx;by_cases hk:(E.tok (i+1)).k=6
     ·
      rw [if_pos (.inr hk)] at hr;(have sa:((E.tok (i+1)).k == 6)=true:=by simpa using hk);clear hk;obtain ⟨jB,jA,jz,jy,jx,jw,ju⟩:=mj.o.cells5;go_wp2_with fail;refine eO (E:=E) (ak HE.o (bH.o.alloc _) (by omega)) ?_;intro w6 hb hx iK hw;obtain ⟨cJ,mi⟩:=dJ cN mj hw;have wC:=cW w5.heap.size hx;have kM:=n0 kD hw;have bC:=dX bH hb;have aR:=b0 a8 hw;clear jB jA jz jy jx jw ju cN mj kD bH a8 hw hb hx;obtain ⟨di,dh,de,dd,dc,db,da⟩:=cJ.o.cells5;go_wp2_with fail;replace hr:=bv hr;obtain rfl:=ar hr;exact cG (r:=w.heap.size) (q:=true) results103 (by rfl) (by rfl) cJ.o.p5 (by rfl) ⟨aR.o.s5,bC.o.f6,_,rfl,_,_,rfl,aJ (n:=1) wC.o.f5 (aC.one (zv (E:=E) kM)) rfl (by decide) (⟨by omega,by simp <;> omega⟩)⟩
     ·
      rw [if_neg (fun e=>by rcases e with e | e;exact Bool.eq_false_iff.1 HQ1.o e;exact hk e)] at hr;(have sa:((E.tok (i+1)).k == 6)=false:=by simpa using hk);clear hk;go_wp2_with fail;obtain ⟨rx,h1,hr⟩:=ag hr;refine (HO.o.typ h1 bH.o).mono ?_;rintro e w6 hp;rcases rx with p | ⟨x6,i6,b6⟩
      ·
       obtain ⟨hb,rfl⟩:=hp;cases hr;(try go_wp2_with fail);exact ⟨rfl,a8.o.trans hb mg,rfl⟩
      (try dsimp only at hr);obtain ⟨xj,rfl⟩:=zf ((HF.o.typ _ _ (by omega) bH.o.ilt).2 _ _ h1);obtain ⟨hb,hp,v,rfl,A6,c6,rfl,ae⟩:=hp;(try dsimp only at hp ae);obtain ⟨iK,hw⟩:=ez hb;obtain ⟨cJ,mi⟩:=dJ cN mj hw;have kM:=n0 kD hw;have bC:=zh hp;have aR:=b0 a8 hw;clear cN mj kD bH a8 hw;have sP:=zn (lo:=w5.heap.size) ae;clear ae hb hp h1;obtain ⟨jB,jA,jz,jy,jx,jw,ju⟩:=mi.o.cells5;go_wp2_with fail;refine kT (E:=E) (ak HE.o ((bC.o.alloc _).alloc _) (by omega)) ?_;intro w7 hb hx fz hw;obtain ⟨cQ,nU⟩:=dJ cJ mi hw;have kj:=fJ w6.heap.size hx;have sW:=cW (w6.heap.size+1) hx;have lA:=n0 kM hw;have sg:=n0 sP hw;have bR:=kG bC hb;have bf:=b0 aR hw;clear jB jA jz jy jx jw ju cJ mi kM sP bC aR hw hb hx;obtain ⟨di,dh,de,dd,dc,db,da⟩:=cQ.o.cells5;go_wp2_with fail;replace hr:=bv hr;obtain rfl:=ar hr
      exact cG (r:=w.heap.size) (q:=true) results103 (by rfl) (by rfl) cQ.o.p5 (by rfl) ⟨bf.o.s5,bR.o.f6,_,rfl,_,_,rfl,aJ (n:=2) sW.o.f5 (aC.cons_ (zv (E:=E) lA) (aC.one (zv (E:=E) sg))) rfl (by decide) (⟨by omega,by simp <;> omega⟩)⟩
theorem xp (hE:eH E) (hF:GF E.ts G lo) (hO:OkG E G) (dA:lo<i) {r:Except Int ((No×Bool)×Ps)} (hr:im E.ts G (i,b)=some r) (h:PS E w i b):Calls prog 104 #[(.pointer (some ⟨E.g,0,none⟩))] w (cV E eh w (QM w) r):=by
  have fU:=h.glt;have ic:=h.lt;have iS:=hE.len;have eY:=h.ilt;have HP:=zh h;have HE:=zh hE;have cT:Hd (ay (fun k=>gX E k) w w):=zh zb;have HF:=zh hF;have HO:=zh hO;clear hF hO;clear h hE;have iM:=aO;have iT:=aU;have jf:=aT;have iL:=aS;go_enter func104,ntmps104;unfold im at hr;replace hr:=eu hr;go_wp2_with fail;refine eO (E:=E) (cY HE.o (HP.o.alloc _)) ?_;intro w1 hb hx et hw;have cM:=cW w.heap.size hx;have bp:=dX HP hb;have a7:=b0 cT hw;clear hw hb hx;go_wp2_with fail;by_cases hq:(E.tok i).k=1
  case neg=>
   replace hr:=bY hr hq;subst hr;refine (dV HE.o bp.o hq).mono ?_;rintro e wz ⟨rfl,hb⟩;go_wp2_with fail;exact ⟨rfl,a7.o.then_ hb,rfl⟩
  case pos=>
   replace hr:=bX hr hq;refine xP (dn HE.o bp.o hq) ?_;intro w2 hp hb hx ep hw;have bO:=k0 cM hw;have bn:=zh hp;have aE:=b0 a7 hw;clear cM bp a7 hw hb hx hp;have kS:=nN w2 (E.tok i);clear hq;go_wp2_with fail;replace hr:=cZ hr;refine kT (E:=E) (bm (l:=[⟨#[40]⟩]) HE.o ((bn.o.alloc _).alloc _) (aW (n:=w2.heap.size+1) [⟨#[40]⟩] (by simp) (by simp)) (ba (by simp))) ?_;intro w3 hb hx fK hw;have cC:=k0 bO hw;have pD:=fJ w2.heap.size hx;have nR:=n0 kS hw;have bD:=kG bn hb;have be:=b0 aE hw;clear bO kS bn aE hw hb hx;by_cases hq:oneOf (E.tok (i+1)) [⟨#[40]⟩]=true
   ·
    rw [hq];(try rw [if_pos hq] at hr);go_wp2_with fail;have kR:i+1+1<E.ts.length:=HE.o.wt.nxt _ bD.o.ilt (cF hq);replace hr:=gV hr;refine (dN HE.o bD.o kR).mono ?_;rintro e w4 ⟨rfl,hp,hb⟩;simp only [cu];obtain ⟨hx,iV,hw⟩:=AB (E:=E) hb;obtain ⟨cS,mq⟩:=dJ cC pD hw;have lw:=n0 nR hw;have bM:=zh hp;have bu:=b0 be hw;clear cC pD nR bD be hw hb hx hp kR hq;go_wp2_with fail;obtain ⟨rx,h1,hr⟩:=ag hr;refine (tc (X:=eh) (lo:=lo+1) HE.o (Fu HF.o HO.o) rfl h1 bM.o trivial (by omega) (fun k hk=>hk.elim)).mono ?_;rintro e w5 hp;rcases rx with p | ⟨⟨x5,u5⟩,i5,b5⟩
    ·
     obtain ⟨hb,rfl⟩:=hp;cases hr;(try go_wp2_with fail);exact ⟨rfl,bu.o.trans hb mg,rfl⟩
    (try dsimp only at hr);obtain ⟨O0,rfl⟩:=zf ((oY HE.o.wt (fun u j hj h=>fm (HF.o.typ _ _ (by omega) h)) bM.o.ilt).2 _ _ h1);obtain ⟨hb,hp,v,rfl,⟨A5,c5,rfl,ae⟩,hI⟩:=hp;(try dsimp only at hp ae hI);obtain ⟨jY,hw⟩:=ez hb;obtain ⟨cN,mj⟩:=dJ cS mq hw;have kD:=n0 lw hw;have bH:=zh hp;have a8:=b0 bu hw;clear cS mq lw bM bu hw;have wv:=zn (lo:=w4.heap.size) ae;clear ae hb hp h1 hI;go_wp2_with fail;by_cases hq:oneOf (E.tok i5) [⟨#[41]⟩]=true
    case neg=>
     replace hq:=Bool.eq_false_iff.2 hq;replace hr:=aZ hr hq;subst hr;refine (ci (x:=⟨#[41]⟩) HE.o (bH.o.alloc _) hq).mono ?_;rintro e wz ⟨rfl,hb⟩;go_wp2_with fail;exact ⟨rfl,(a8.o.alloc _).then_ hb,rfl⟩
    case pos=>
     replace hr:=aY hr hq;refine (bI (x:=⟨#[41]⟩) HE.o (bH.o.alloc _) hq).mono ?_;rintro e w6 ⟨rfl,hp,hb⟩;simp only [cu];obtain ⟨hx,iK,hw⟩:=Gh (E:=E) hb;obtain ⟨cJ,mi⟩:=dJ cN mj hw;have wB:=cW w5.heap.size hx;have kM:=n0 kD hw;have wS:=n0 wv hw;have bC:=zh hp;have aR:=b0 a8 hw;clear cN mj kD wv bH a8 hw hb hx hp hq;go_wp2_with fail;obtain ⟨rx,h1,hr⟩:=ag hr;refine (bL HE.o HF.o HO.o (by omega) h1 bC.o).mono ?_;rintro e w7 hp;rcases rx with p | ⟨x7,i7,b7⟩
     ·
      obtain ⟨hb,rfl⟩:=hp;cases hr;(try go_wp2_with fail);exact ⟨rfl,aR.o.trans hb mg,rfl⟩
     (try dsimp only at hr);obtain ⟨vB,rfl⟩:=zf ((bK HE.o.wt HF.o (by omega) bC.o.ilt).2 _ _ h1);obtain ⟨hb,hp,v,rfl,A7,c7,rfl,ae⟩:=hp;(try dsimp only at hp ae);obtain ⟨fz,hw⟩:=ez hb;obtain ⟨cQ,nU,AJ⟩:=fq cJ mi wB hw;have lA:=n0 kM hw;have ui:=n0 wS hw;have bR:=zh hp;have bf:=b0 aR hw;clear cJ mi wB kM wS bC aR hw;have S4:=zn (lo:=w6.heap.size) ae;clear ae hb hp h1;obtain ⟨jB,jA,jz,jy,jx,jw,ju⟩:=nU.o.cells5;obtain ⟨r8,C6,wL,wK,C5,xh,xe⟩:=AJ.o.cells5;go_wp2_with fail;refine kT (E:=E) (ak HE.o ((bR.o.alloc _).alloc _) (by omega)) ?_;intro w8 hb hx lz hw;obtain ⟨ek,xH,H2⟩:=fq cQ nU AJ hw;have Kr28:=fJ w7.heap.size hx;have qD:=cW (w7.heap.size+1) hx;have qA:=n0 lA hw;have sR:=n0 ui hw;have XL:=n0 S4 hw;have dr:=kG bR hb;have dG:=b0 bf hw;clear jB jA jz jy jx jw ju r8 C6 wL wK C5 xh xe cQ nU AJ lA ui S4 bR bf hw hb hx;obtain ⟨di,dh,de,dd,dc,db,da⟩:=ek.o.cells5;go_wp2_with fail;replace hr:=bv hr;obtain rfl:=ar hr
     exact cG (r:=w.heap.size) (q:=true) results104 (by rfl) (by rfl) ek.o.p5 (by rfl) ⟨dG.o.s5,dr.o.f6,_,rfl,_,_,rfl,aJ (n:=3) qD.o.f5 (aC.cons_ (zv (E:=E) qA) (aC.cons_ (zv (E:=E) sR) (aC.one (zv (E:=E) XL)))) rfl (by decide) (⟨by omega,by simp <;> omega⟩)⟩
   ·
    replace hq:=Bool.eq_false_iff.2 hq;rw [hq];(try rw [if_neg (Bool.eq_false_iff.1 hq)] at hr);clear hq;replace hr:=sM hr;rw [Nat.add_sub_cancel] at hr;obtain ⟨nb,rF,rE,na,m_⟩:=bD.o.cells;go_wp2_with fail;obtain ⟨rx,h1,hr⟩:=ag hr;refine (iX HE.o h1 (bD.o.set1 (j:=i) eY)).mono ?_;rintro e w4 hp;rcases rx with p | ⟨x4,i4,b4⟩
    ·
     obtain ⟨hb,rfl⟩:=hp;cases hr;(try go_wp2_with fail);exact ⟨rfl,(be.o.set_ (p:=⟨E.g,1,none⟩) (.inr (.inl rfl)) _).trans hb mg,rfl⟩
    (try dsimp only at hr);obtain ⟨Ea,rfl⟩:=zf ((mO HE.o.wt eY).2 _ _ h1);obtain ⟨hb,hp,v,rfl,A4,c4,rfl,ae⟩:=hp;(try dsimp only at hp ae);have iV:=hb.size;(try simp at iV);have hw:ay (Xs E []) w3 w4:=(zb.set_ (p:=⟨E.g,1,none⟩) (.inr (.inl rfl)) _).trans hb xg;obtain ⟨cS,mq⟩:=dJ cC pD hw;have lw:=n0 nR hw;have bM:=zh hp;have bu:=b0 be hw;clear nb rF rE na m_ cC pD nR bD be hw;have pZ:=zn (lo:=w3.heap.size) ae;clear ae hb hp h1;go_wp2_with fail;refine kT (E:=E) (ak HE.o ((bM.o.alloc _).alloc _) (by omega)) ?_;intro w5 hb hx jY hw;obtain ⟨cN,mj⟩:=dJ cS mq hw;have jP:=fJ w4.heap.size hx;have nq:=cW (w4.heap.size+1) hx;have kD:=n0 lw hw;have qy:=n0 pZ hw;have bH:=kG bM hb;have a8:=b0 bu hw;clear cS mq lw pZ bM bu hw hb hx;obtain ⟨di,dh,de,dd,dc,db,da⟩:=cN.o.cells5;go_wp2_with fail;replace hr:=bv hr;obtain rfl:=ar hr;exact cG (r:=w.heap.size) (q:=true) results104 (by rfl) (by rfl) cN.o.p5 (by rfl) ⟨a8.o.s5,bH.o.f6,_,rfl,_,_,rfl,aJ (n:=1) nq.o.f5 (aC.one (zv (E:=E) qy)) rfl (by decide) (⟨by omega,by simp <;> omega⟩)⟩
end
set_option maxRecDepth 100000
set_option maxHeartbeats 4000000
section
variable {E:Env} {G:Gr} {lo:Nat} {w:World} {i:Nat} {b:Bool}
theorem vT (args:Array Value) (w:World):(callFunc 142 args).run prog w = .ok (.enter 142 args) w:=by kernel_rfl
theorem xA (hE:eH E) {pb:Nat} (h:PS E w i b) (hp:aj w pb 49 #[(.pointer (some ⟨E.g,0,none⟩))]):Calls prog 142 #[.pointer (some ⟨pb,0,none⟩)] w fun e w'=>e = .returned (.bool (oneOf (E.tok i) [⟨#[125]⟩]))∧Below w.heap.size w w':=by
  have q0:=hp.cell 0;have ql:=hp.lt;simp at q0;have HP:=zh h;have HE:=zh hE;clear h hE hp;go_enter func142,ntmps142;go_wp2_with fail;refine (bm (l:=[⟨#[125]⟩]) HE.o (HP.o.alloc _) (jT (n:=w.heap.size) rfl) (ba rfl)).mono ?_;rintro e w1 ⟨rfl,cB⟩;have a7:Hd (Below w.heap.size w w1):=(aG _ _).trans (cB.mono (by simp));clear cB;go_wp2_with fail;go_ret;exact ⟨rfl,a7.o⟩
theorem EM (hE:eH E) {pb:Nat}:Ends E (fun w=>aj w pb 49 #[(.pointer (some ⟨E.g,0,none⟩))]) (fun t=>oneOf t [⟨#[125]⟩]) 142 #[.pointer (some ⟨pb,0,none⟩)] where
  call _ _ _ h hI:=xA hE h hI
  ent w:=vT _ w
theorem ri {pb:Nat} (FN:pb≠E.g) {one:PM (No×Bool)} {f:Nat} {args:Array Value} (hc:∀ w i b r,lo≤i→PS E w i b→one (i,b)=some r→Calls prog f args w (cV E eh w (QM w) r))
    (hf:∀ i b,lo≤i→i<E.ts.length→qF E.ts i one i b) (he:∀ w,(callFunc f args).run prog w = .ok (.enter f args) w):PD E (fun k=>k=pb) (fun w=>aj w pb 49 #[(.pointer (some ⟨E.g,0,none⟩))]) one f args lo where
  call w i b r hi cq hI hr:=(hc w i b r hi cq hr).mono fun e w' h=>by
    obtain ⟨hb,h⟩:=h;refine ⟨hb.mono fun _ _ h=>by rcases h with h | h;exact .inl h;exact h.elim,?_⟩;cases r with
    | error p=>exact h
    | ok aa=>
      obtain ⟨hp,v,e1,hv⟩:=h;exact ⟨hp,v,e1,hv,hI.but hb fun e=>by rcases e with e | e;exact FN e;exact e⟩
  fine:=hf
  ent:=he
theorem ni (hE:eH E) {one:PM (No×Bool)} {n:Nat} {first cap args:Array Value} (hq:∀ pb,pb≠E.g→PD E (fun k=>k=pb) (fun w=>aj w pb 49 #[(.pointer (some ⟨E.g,0,none⟩))]) one n args lo) (ha:first ++ cap=args) (YS:∀ j,lo≤j→j<E.ts.length→qF E.ts j one j b) (dA:lo≤i+1)
    {r:Except Int (List No×Ps)} (hr:gW E.ts one (i,b)=some r) (h:PS E w i b):Calls prog 102 #[(.pointer (some ⟨E.g,0,none⟩)),.func (.func n) first cap] w (cV E eh w (Kj w) r):=by
  have fU:=h.glt;have ic:=h.lt;have iS:=hE.len;have eY:=h.ilt;have HP:=zh h;have HE:=zh hE;have HQ:=zh hq;have HA:=zh ha;have Ye:=zh YS;have cT:Hd (ay (fun k=>gX E k) w w):=zh zb;clear h hE hq ha YS;have iM:=aO;have iT:=aU;have jf:=aT;have iL:=aS;go_enter func102,ntmps102;unfold gW at hr;go_wp2_with fail;by_cases hq:oneOf (E.tok i) [⟨#[123]⟩]=true
  case neg=>
   replace hq:=Bool.eq_false_iff.2 hq;replace hr:=aZ hr hq;subst hr;refine (ci (x:=⟨#[123]⟩) HE.o (HP.o.alloc _) hq).mono ?_;rintro e wz ⟨rfl,hb⟩;go_wp2_with fail;exact ⟨rfl,(cT.o.alloc _).then_ hb,rfl⟩
  case pos=>
   replace hr:=aY hr hq;refine (bI (x:=⟨#[123]⟩) HE.o (HP.o.alloc _) hq).mono ?_;rintro e w1 ⟨rfl,hp,hb⟩;simp only [cu];obtain ⟨hx,et,hw⟩:=Gh (E:=E) hb;have d5:=cW w.heap.size hx;have bp:=zh hp;have a7:=b0 cT hw;clear hw hb hx hp hq;obtain ⟨bg,bi,bh⟩:=d5.o.c1;go_wp2_with fail;obtain ⟨rx,h1,hr⟩:=ag hr;refine (su (X:=fun k=>k=w.heap.size) (I:=fun w'=>aj w' w.heap.size 49 #[(.pointer (some ⟨E.g,0,none⟩))]) (ends:=fun t=>oneOf t [⟨#[125]⟩]) (lo:=lo) HE.o (HQ.o _ (by omega)) HA.o (EM HE.o) (fun _ _ h k=>(k _ rfl).trans h) (by omega) h1 bp.o d5.o (by omega) (fun k hk=>by subst hk;omega)).mono ?_;rintro e w2 hp;rcases rx with p | ⟨l2,i2,b2⟩
   ·
    obtain ⟨hb,rfl⟩:=hp;cases hr;(try go_wp2_with fail);exact ⟨rfl,a7.o.trans hb (fun k hk h=>by rcases h with h | h;exact .inl h;all_goals first | exact h.elim | exact .inr h | exact .inr (.inl h) | (exfalso;omega)),rfl⟩
   (try dsimp only at hr);obtain ⟨sC,rfl⟩:=zf ((pf HE.o.wt lo (fun j hj h=>Ye.o j hj h) _ _ _ (by omega) bp.o.ilt (by omega)).2 _ _ h1);obtain ⟨hb,hp,v,rfl,⟨A2,c2,rfl,ae⟩,hI⟩:=hp;(try dsimp only at hp ae hI);have ep:=hb.size;(try simp at ep);have hw:ay (Xs E [w.heap.size]) w1 w2:=zb.trans hb (fun k _ h=>by rcases h with h | h <;> simp [Xs,h]);have bn:=zh hp;have aE:=b1 a7 hw (by omega);clear bg bi bh d5 bp a7 hw;have pz:=zm (lo:=w1.heap.size) ae;clear ae hb hp h1;have dU:Hd (aj w2 w.heap.size 49 #[(.pointer (some ⟨E.g,0,none⟩))]):=zh hI;clear hI;obtain ⟨bg,bi,bh⟩:=dU.o.c1;go_wp2_with fail;by_cases hq:oneOf (E.tok i2) [⟨#[125]⟩]=true
   case neg=>
    replace hq:=Bool.eq_false_iff.2 hq;replace hr:=aZ hr hq;subst hr;refine (ci (x:=⟨#[125]⟩) HE.o bn.o hq).mono ?_;rintro e wz ⟨rfl,hb⟩;go_wp2_with fail;exact ⟨rfl,aE.o.then_ hb,rfl⟩
   case pos=>
    replace hr:=aY hr hq;refine (bI (x:=⟨#[125]⟩) HE.o bn.o hq).mono ?_;rintro e w3 ⟨rfl,hp,hb⟩;simp only [cu];obtain ⟨hx,fK,hw⟩:=AB (E:=E) hb;have eQ:=k0 dU hw;have uj:=r0 pz hw;have bD:=zh hp;have be:=b0 aE hw;clear bg bi bh dU pz bn aE hw hb hx hp hq;go_wp2_with fail;go_ret;obtain rfl:=ar hr;exact ⟨be.o,bD.o,_,rfl,_,_,rfl,(rk uj zr (by omega) (by first|omega|simp<;>omega))⟩
theorem zS (args:Array Value) (w:World):(callFunc 103 args).run prog w = .ok (.enter 103 args) w:=by kernel_rfl
theorem vN (args:Array Value) (w:World):(callFunc 104 args).run prog w = .ok (.enter 104 args) w:=by kernel_rfl
theorem jI (hE:eH E) (hF:GF E.ts G lo) (hO:OkG E G) (dA:lo≤i) {r:Except Int (No×Ps)} (hr:pr E.ts G (i,b)=some r) (h:PS E w i b):Calls prog 79 #[(.pointer (some ⟨E.g,0,none⟩))] w (cV E eh w (lp w) r):=by
  have fU:=h.glt;have ic:=h.lt;have iS:=hE.len;have eY:=h.ilt;have HP:=zh h;have HE:=zh hE;have cT:Hd (ay (fun k=>gX E k) w w):=zh zb;have HF:=zh hF;have HO:=zh hO;clear hF hO;clear h hE;have iM:=aO;have iT:=aU;have jf:=aT;have iL:=aS;go_enter func79,ntmps79;unfold pr at hr;replace hr:=bW hr;go_wp2_with fail;refine eO (E:=E) (cY HE.o (HP.o.alloc _)) ?_;intro w1 hb hx et hw;have cM:=cW w.heap.size hx;have bp:=dX HP hb;have a7:=b0 cT hw;clear hw hb hx;go_wp2_with fail;refine mr (E:=E) (gD HE.o bp.o) ?_;intro w2 hb hx ep hw;have bO:=k0 cM hw;have bn:=fN bp hb;have aE:=b0 a7 hw;clear cM bp a7 hw hb hx;by_cases hq:(E.tok i).k=1
  ·
   rw [if_pos hq] at hr;rw [show decide ((E.tok i).k=1)=true from decide_eq_true hq];clear hq;go_wp2_with fail;have GQ:dk E.ts (i,b)=some r:=hr;refine (iX HE.o GQ bn.o).mono ?_;rintro e w3 hp;rcases r with p | ⟨x,i2,b2⟩
   ·
    obtain ⟨hb,rfl⟩:=hp;go_wp2_with fail;exact ⟨rfl,aE.o.trans hb mg,rfl⟩
   obtain ⟨hb,hp,v,rfl,A2,c2,rfl,ae⟩:=hp;(try dsimp only at hp ae);obtain ⟨fK,hw⟩:=ez hb;have cC:=k0 bO hw;have bD:=zh hp;have be:=b0 aE hw;clear bO bn aE hw;have po:Hd (aQ w3 (Iv w2.heap.size w3.heap.size) (.slice A2 x.ks.length c2) x.ks):=zh ae;obtain ⟨di,dh,de,dd,dc,db,da⟩:=cC.o.cells5;go_wp2_with fail;exact am (r:=w.heap.size) results79 (by rfl) cC.o.p5 (by rfl) ⟨be.o.s5,bD.o.f6,_,rfl,_,_,rfl,(zw po)⟩
  ·
   rw [if_neg hq] at hr;rw [show decide ((E.tok i).k=1)=false from decide_eq_false hq];(try clear hq);go_wp2_with fail;by_cases hq:oneOf (E.tok i) [⟨#[42]⟩]=true
   ·
    replace hr:=aM hr hq;(try rw [if_pos rfl] at hr);refine qd (qG [⟨#[42]⟩] HE bn hq) ?_;intro w3 hp hb hx fK hw;have cC:=k0 bO hw;have bD:=zh hp;have be:=b0 aE hw;clear bO bn aE hw hb hx hp hq;go_wp2_with fail;obtain ⟨rx,h1,hr⟩:=ag hr;refine (HO.o.typ h1 bD.o).mono ?_;rintro e w4 hp;rcases rx with p | ⟨x4,i4,b4⟩
    ·
     obtain ⟨hb,rfl⟩:=hp;cases hr;(try go_wp2_with fail);exact ⟨rfl,be.o.trans hb mg,rfl⟩
    (try dsimp only at hr);obtain ⟨Ea,rfl⟩:=zf ((HF.o.typ _ _ (by omega) bD.o.ilt).2 _ _ h1);obtain ⟨hb,hp,v,rfl,A4,c4,rfl,ae⟩:=hp;(try dsimp only at hp ae);obtain ⟨iV,hw⟩:=ez hb;have cS:=k0 cC hw;have bM:=zh hp;have bu:=b0 be hw;clear cC bD be hw;have pZ:=zn (lo:=w3.heap.size) ae;clear ae hb hp h1;go_wp2_with fail;refine kT (E:=E) (ak HE.o ((bM.o.alloc _).alloc _) (by omega)) ?_;intro w5 hb hx jY hw;have cN:=k0 cS hw;have jP:=fJ w4.heap.size hx;have nq:=cW (w4.heap.size+1) hx;have qy:=n0 pZ hw;have bH:=kG bM hb;have a8:=b0 bu hw;clear cS pZ bM bu hw hb hx;obtain ⟨di,dh,de,dd,dc,db,da⟩:=cN.o.cells5;go_wp2_with fail;obtain rfl:=a6 hr;exact am (r:=w.heap.size) results79 (by rfl) cN.o.p5 (by rfl) ⟨a8.o.s5,bH.o.f6,_,rfl,_,_,rfl,aJ (n:=1) nq.o.f5 (aC.one (zv (E:=E) qy)) rfl (by decide) (⟨by omega,by simp <;> omega⟩)⟩
   ·
    replace hq:=Bool.eq_false_iff.2 hq;replace hr:=aN hr hq;(try rw [if_neg Bool.false_ne_true] at hr);refine eO (E:=E) (qH [⟨#[42]⟩] HE bn hq) ?_;intro w3 hb hx fK hw;have cC:=k0 bO hw;have bD:=dX bn hb;have be:=b0 aE hw;clear bO bn aE hw hb hx;(try clear hq);go_wp2_with fail;by_cases hq:oneOf (E.tok i) [⟨#[91]⟩]=true
    ·
     replace hr:=aM hr hq;(try rw [if_pos rfl] at hr);refine qd (qG [⟨#[91]⟩] HE bD hq) ?_;intro w4 hp hb hx iV hw;have cS:=k0 cC hw;have bM:=zh hp;have bu:=b0 be hw;clear cC bD be hw hb hx hp hq;go_wp2_with fail;by_cases hq:oneOf (E.tok (i+1)) [⟨#[93]⟩]=true
     case neg=>
      replace hq:=Bool.eq_false_iff.2 hq;replace hr:=aZ hr hq;subst hr;refine (ci (x:=⟨#[93]⟩) HE.o bM.o hq).mono ?_;rintro e wz ⟨rfl,hb⟩;go_wp2_with fail;exact ⟨rfl,bu.o.then_ hb,rfl⟩
     case pos=>
      replace hr:=aY hr hq;refine (bI (x:=⟨#[93]⟩) HE.o bM.o hq).mono ?_;rintro e w5 ⟨rfl,hp,hb⟩;simp only [cu];obtain ⟨hx,jY,hw⟩:=AB (E:=E) hb;have cN:=k0 cS hw;have bH:=zh hp;have a8:=b0 bu hw;clear cS bM bu hw hb hx hp hq;go_wp2_with fail;obtain ⟨rx,h1,hr⟩:=ag hr;refine (HO.o.typ h1 bH.o).mono ?_;rintro e w6 hp;rcases rx with p | ⟨x6,i6,b6⟩
      ·
       obtain ⟨hb,rfl⟩:=hp;cases hr;(try go_wp2_with fail);exact ⟨rfl,a8.o.trans hb mg,rfl⟩
      (try dsimp only at hr);obtain ⟨xj,rfl⟩:=zf ((HF.o.typ _ _ (by omega) bH.o.ilt).2 _ _ h1);obtain ⟨hb,hp,v,rfl,A6,c6,rfl,ae⟩:=hp;(try dsimp only at hp ae);obtain ⟨iK,hw⟩:=ez hb;have cJ:=k0 cN hw;have bC:=zh hp;have aR:=b0 a8 hw;clear cN bH a8 hw;have sP:=zn (lo:=w5.heap.size) ae;clear ae hb hp h1;go_wp2_with fail;refine kT (E:=E) (ak HE.o ((bC.o.alloc _).alloc _) (by omega)) ?_;intro w7 hb hx fz hw;have cQ:=k0 cJ hw;have kj:=fJ w6.heap.size hx;have sW:=cW (w6.heap.size+1) hx;have sg:=n0 sP hw;have bR:=kG bC hb;have bf:=b0 aR hw;clear cJ sP bC aR hw hb hx;obtain ⟨di,dh,de,dd,dc,db,da⟩:=cQ.o.cells5;go_wp2_with fail;obtain rfl:=a6 hr;exact am (r:=w.heap.size) results79 (by rfl) cQ.o.p5 (by rfl) ⟨bf.o.s5,bR.o.f6,_,rfl,_,_,rfl,aJ (n:=1) sW.o.f5 (aC.one (zv (E:=E) sg)) rfl (by decide) (⟨by omega,by simp <;> omega⟩)⟩
    ·
     replace hq:=Bool.eq_false_iff.2 hq;replace hr:=aN hr hq;(try rw [if_neg Bool.false_ne_true] at hr);refine eO (E:=E) (qH [⟨#[91]⟩] HE bD hq) ?_;intro w4 hb hx iV hw;have cS:=k0 cC hw;have bM:=dX bD hb;have bu:=b0 be hw;clear cC bD be hw hb hx;(try clear hq);go_wp2_with fail;by_cases hq:oneOf (E.tok i) [⟨#[99,104,97,110]⟩]=true
     ·
      replace hr:=aM hr hq;(try rw [if_pos rfl] at hr);refine qd (qG [⟨#[99,104,97,110]⟩] HE bM hq) ?_;intro w5 hp hb hx jY hw;have cN:=k0 cS hw;have bH:=zh hp;have a8:=b0 bu hw;clear cS bM bu hw hb hx hp hq;go_wp2_with fail;obtain ⟨rx,h1,hr⟩:=ag hr;refine (HO.o.typ h1 bH.o).mono ?_;rintro e w6 hp;rcases rx with p | ⟨x6,i6,b6⟩
      ·
       obtain ⟨hb,rfl⟩:=hp;cases hr;(try go_wp2_with fail);exact ⟨rfl,a8.o.trans hb mg,rfl⟩
      (try dsimp only at hr);obtain ⟨xj,rfl⟩:=zf ((HF.o.typ _ _ (by omega) bH.o.ilt).2 _ _ h1);obtain ⟨hb,hp,v,rfl,A6,c6,rfl,ae⟩:=hp;(try dsimp only at hp ae);obtain ⟨iK,hw⟩:=ez hb;have cJ:=k0 cN hw;have bC:=zh hp;have aR:=b0 a8 hw;clear cN bH a8 hw;have sP:=zn (lo:=w5.heap.size) ae;clear ae hb hp h1;go_wp2_with fail;refine kT (E:=E) (ak HE.o ((bC.o.alloc _).alloc _) (by omega)) ?_;intro w7 hb hx fz hw;have cQ:=k0 cJ hw;have kj:=fJ w6.heap.size hx;have sW:=cW (w6.heap.size+1) hx;have sg:=n0 sP hw;have bR:=kG bC hb;have bf:=b0 aR hw;clear cJ sP bC aR hw hb hx;obtain ⟨di,dh,de,dd,dc,db,da⟩:=cQ.o.cells5;go_wp2_with fail;obtain rfl:=a6 hr;exact am (r:=w.heap.size) results79 (by rfl) cQ.o.p5 (by rfl) ⟨bf.o.s5,bR.o.f6,_,rfl,_,_,rfl,aJ (n:=1) sW.o.f5 (aC.one (zv (E:=E) sg)) rfl (by decide) (⟨by omega,by simp <;> omega⟩)⟩
     ·
      replace hq:=Bool.eq_false_iff.2 hq;replace hr:=aN hr hq;(try rw [if_neg Bool.false_ne_true] at hr);refine eO (E:=E) (qH [⟨#[99,104,97,110]⟩] HE bM hq) ?_;intro w5 hb hx jY hw;have cN:=k0 cS hw;have bH:=dX bM hb;have a8:=b0 bu hw;clear cS bM bu hw hb hx;(try clear hq);go_wp2_with fail;by_cases hq:oneOf (E.tok i) [⟨#[102,117,110,99]⟩]=true
      ·
       replace hr:=aM hr hq;(try rw [if_pos rfl] at hr);refine qd (qG [⟨#[102,117,110,99]⟩] HE bH hq) ?_;intro w6 hp hb hx iK hw;have cJ:=k0 cN hw;have bC:=zh hp;have aR:=b0 a8 hw;clear cN bH a8 hw hb hx hp hq;go_wp2_with fail;refine (vH HE.o HF.o HO.o (by omega) hr bC.o).mono ?_;rintro e w7 hp;rcases r with p | ⟨x,i2,b2⟩
       ·
        obtain ⟨hb,rfl⟩:=hp;go_wp2_with fail;exact ⟨rfl,aR.o.trans hb mg,rfl⟩
       obtain ⟨hb,hp,v,rfl,A2,c2,rfl,ae⟩:=hp;(try dsimp only at hp ae);obtain ⟨fz,hw⟩:=ez hb;have cQ:=k0 cJ hw;have bR:=zh hp;have bf:=b0 aR hw;clear cJ bC aR hw;have ie:Hd (aQ w7 (Iv w6.heap.size w7.heap.size) (.slice A2 x.ks.length c2) x.ks):=zh (ae.keep zr fun k hk=>⟨by have h1:=hk.1;(try simp at h1);omega,hk.2⟩);obtain ⟨di,dh,de,dd,dc,db,da⟩:=cQ.o.cells5;go_wp2_with fail;exact am (r:=w.heap.size) results79 (by rfl) cQ.o.p5 (by rfl) ⟨bf.o.s5,bR.o.f6,_,rfl,_,_,rfl,(zw ie)⟩
      ·
       replace hq:=Bool.eq_false_iff.2 hq;replace hr:=aN hr hq;(try rw [if_neg Bool.false_ne_true] at hr);refine eO (E:=E) (qH [⟨#[102,117,110,99]⟩] HE bH hq) ?_;intro w6 hb hx iK hw;have cJ:=k0 cN hw;have bC:=dX bH hb;have aR:=b0 a8 hw;clear cN bH a8 hw hb hx;(try clear hq);go_wp2_with fail;by_cases hq:oneOf (E.tok i) [⟨#[115,116,114,117,99,116]⟩]=true
       ·
        replace hr:=aM hr hq;(try rw [if_pos rfl] at hr);refine qd (qG [⟨#[115,116,114,117,99,116]⟩] HE bC hq) ?_;intro w7 hp hb hx fz hw;have cQ:=k0 cJ hw;have bR:=zh hp;have bf:=b0 aR hw;clear cJ bC aR hw hb hx hp hq;go_wp2_with fail;obtain ⟨rx,h1,hr⟩:=ag hr;refine (ni (lo:=lo+1) HE.o (fun pb FN=>ri FN (fun w i b r hi cq hr=>BZ HE.o HF.o HO.o (by omega) hr cq) (fun j b hj h=>(pi HE.o.wt HF.o (by omega) h).less (by omega)) (fun w=>zS _ w)) rfl (fun j hj h=>(pi HE.o.wt HF.o (by omega) h).less (by omega)) (by omega) h1 bR.o).mono ?_;rintro e w8 hp;rcases rx with p | ⟨l8,i8,b8⟩
        ·
         obtain ⟨hb,rfl⟩:=hp;cases hr;(try go_wp2_with fail);exact ⟨rfl,bf.o.trans hb mg,rfl⟩
        (try dsimp only at hr);obtain ⟨OZ,rfl⟩:=zf ((jN HE.o.wt bR.o.ilt (fun j hj h=>(pi HE.o.wt HF.o (by omega) h).less (by omega))).2 _ _ h1);obtain ⟨hb,hp,v,rfl,A8,c8,rfl,ae⟩:=hp;(try dsimp only at hp ae);obtain ⟨lz,hw⟩:=ez hb;have ek:=k0 cQ hw;have dr:=zh hp;have dG:=b0 bf hw;clear cQ bR bf hw;have sR:=zm (lo:=w7.heap.size) ae;clear ae hb hp h1;go_wp2_with fail;refine mr (E:=E) (ak HE.o dr.o (by omega)) ?_;intro w9 hb hx nY hw;have fA:=k0 ek hw;have py:=r0 sR hw;have d6:=fN dr hb;have eG:=b0 dG hw;clear ek sR dr dG hw hb hx;obtain ⟨di,dh,de,dd,dc,db,da⟩:=fA.o.cells5;go_wp2_with fail;obtain rfl:=a6 hr;exact am (r:=w.heap.size) results79 (by rfl) fA.o.p5 (by rfl) ⟨eG.o.s5,d6.o.f6,_,rfl,_,_,rfl,(zw py)⟩
       ·
        replace hq:=Bool.eq_false_iff.2 hq;replace hr:=aN hr hq;(try rw [if_neg Bool.false_ne_true] at hr);refine eO (E:=E) (qH [⟨#[115,116,114,117,99,116]⟩] HE bC hq) ?_;intro w7 hb hx fz hw;have cQ:=k0 cJ hw;have bR:=dX bC hb;have bf:=b0 aR hw;clear cJ bC aR hw hb hx;(try clear hq);unfold qP at hr;go_wp2_with fail;by_cases hq:oneOf (E.tok i) [⟨#[105,110,116,101,114,102,97,99,101]⟩]=true
        ·
         replace hr:=aM hr hq;(try rw [if_pos rfl] at hr);refine qd (qG [⟨#[105,110,116,101,114,102,97,99,101]⟩] HE bR hq) ?_;intro w8 hp hb hx lz hw;have ek:=k0 cQ hw;have dr:=zh hp;have dG:=b0 bf hw;clear cQ bR bf hw hb hx hp hq;go_wp2_with fail;obtain ⟨rx,h1,hr⟩:=ag hr;refine (ni (lo:=lo+1) HE.o (fun pb FN=>ri FN (fun w i b r hi cq hr=>xp HE.o HF.o HO.o (by omega) hr cq) (fun j b hj h=>(lL HE.o.wt HF.o (by omega) h).less (by omega)) (fun w=>vN _ w)) rfl (fun j hj h=>(lL HE.o.wt HF.o (by omega) h).less (by omega)) (by omega) h1 dr.o).mono ?_;rintro e w9 hp;rcases rx with p | ⟨l9,i9,b9⟩
         ·
          obtain ⟨hb,rfl⟩:=hp;cases hr;(try go_wp2_with fail);exact ⟨rfl,dG.o.trans hb mg,rfl⟩
         (try dsimp only at hr);obtain ⟨RI,rfl⟩:=zf ((jN HE.o.wt dr.o.ilt (fun j hj h=>(lL HE.o.wt HF.o (by omega) h).less (by omega))).2 _ _ h1);obtain ⟨hb,hp,v,rfl,A9,c9,rfl,ae⟩:=hp;(try dsimp only at hp ae);obtain ⟨nY,hw⟩:=ez hb;have fA:=k0 ek hw;have d6:=zh hp;have eG:=b0 dG hw;clear ek dr dG hw;have py:=zm (lo:=w8.heap.size) ae;clear ae hb hp h1;go_wp2_with fail;refine mr (E:=E) (ak HE.o d6.o (by omega)) ?_;intro gP hb hx kw hw;have dj:=k0 fA hw;have ki:=r0 py hw;have cg:=fN d6 hb;have cL:=b0 eG hw;clear fA py d6 eG hw hb hx;obtain ⟨di,dh,de,dd,dc,db,da⟩:=dj.o.cells5;go_wp2_with fail;obtain rfl:=a6 hr;exact am (r:=w.heap.size) results79 (by rfl) dj.o.p5 (by rfl) ⟨cL.o.s5,cg.o.f6,_,rfl,_,_,rfl,(zw ki)⟩
        ·
         replace hq:=Bool.eq_false_iff.2 hq;replace hr:=aN hr hq;(try rw [if_neg Bool.false_ne_true] at hr);refine eO (E:=E) (qH [⟨#[105,110,116,101,114,102,97,99,101]⟩] HE bR hq) ?_;intro w8 hb hx lz hw;have ek:=k0 cQ hw;have dr:=dX bR hb;have dG:=b0 bf hw;clear cQ bR bf hw hb hx;(try clear hq);go_wp2_with fail;by_cases hq:oneOf (E.tok i) [⟨#[40]⟩]=true
         ·
          replace hr:=aM hr hq;(try rw [if_pos rfl] at hr);refine qd (qG [⟨#[40]⟩] HE dr hq) ?_;intro w9 hp hb hx nY hw;have fA:=k0 ek hw;have d6:=zh hp;have eG:=b0 dG hw;clear ek dr dG hw hb hx hp hq;go_wp2_with fail;obtain ⟨rx,h1,hr⟩:=ag hr;refine (HO.o.typ h1 d6.o).mono ?_;rintro e gP hp;rcases rx with p | ⟨uP,Qp,NE⟩
          ·
           obtain ⟨hb,rfl⟩:=hp;cases hr;(try go_wp2_with fail);exact ⟨rfl,eG.o.trans hb mg,rfl⟩
          (try dsimp only at hr);obtain ⟨L1,rfl⟩:=zf ((HF.o.typ _ _ (by omega) d6.o.ilt).2 _ _ h1);obtain ⟨hb,hp,v,rfl,Ol,c10,rfl,ae⟩:=hp;(try dsimp only at hp ae);obtain ⟨kw,hw⟩:=ez hb;have dj:=k0 fA hw;have cg:=zh hp;have cL:=b0 eG hw;clear fA d6 eG hw;have CE:=zn (lo:=w9.heap.size) ae;clear ae hb hp h1;go_wp2_with fail;by_cases hq:oneOf (E.tok Qp) [⟨#[41]⟩]=true
          case neg=>
           replace hq:=Bool.eq_false_iff.2 hq;replace hr:=aZ hr hq;subst hr;refine (ci (x:=⟨#[41]⟩) HE.o (cg.o.alloc _) hq).mono ?_;rintro e wz ⟨rfl,hb⟩;go_wp2_with fail;exact ⟨rfl,(cL.o.alloc _).then_ hb,rfl⟩
          case pos=>
           replace hr:=aY hr hq;refine (bI (x:=⟨#[41]⟩) HE.o (cg.o.alloc _) hq).mono ?_;rintro e iP ⟨rfl,hp,hb⟩;simp only [cu];obtain ⟨hx,k8,hw⟩:=Gh (E:=E) hb;have dS:=k0 dj hw;have kz:=cW gP.heap.size hx;have Ke:=n0 CE hw;have dy:=zh hp;have d7:=b0 cL hw;clear dj CE cg cL hw hb hx hp hq;obtain ⟨nC,nB,nA,nz,qQ,ny,nx⟩:=kz.o.cells5;go_wp2_with fail;refine eO (E:=E) (ak HE.o (dy.o.alloc _) (by omega)) ?_;intro kU hb hx oC hw;obtain ⟨eP,rV⟩:=dJ dS kz hw;have tU:=cW iP.heap.size hx;have XH:=n0 Ke hw;have eR:=dX dy hb;have fc:=b0 d7 hw;clear nC nB nA nz qQ ny nx dS kz Ke dy d7 hw hb hx;obtain ⟨di,dh,de,dd,dc,db,da⟩:=eP.o.cells5;go_wp2_with fail;obtain rfl:=a6 hr;exact am (r:=w.heap.size) results79 (by rfl) eP.o.p5 (by rfl) ⟨fc.o.s5,eR.o.f6,_,rfl,_,_,rfl,aJ (n:=1) tU.o.f5 (aC.one (zv (E:=E) XH)) rfl (by decide) (⟨by omega,by simp <;> omega⟩)⟩
         ·
          replace hq:=Bool.eq_false_iff.2 hq;replace hr:=aN hr hq;(try rw [if_neg Bool.false_ne_true] at hr);refine eO (E:=E) (qH [⟨#[40]⟩] HE dr hq) ?_;intro w9 hb hx nY hw;have fA:=k0 ek hw;have d6:=dX dr hb;have eG:=b0 dG hw;clear ek dr dG hw hb hx hq;go_wp2_with fail;replace hr:=d_ hr;refine (cI HE.o d6.o).mono ?_;rintro e wz ⟨rfl,hb⟩;subst hr;go_wp2_with fail;exact ⟨rfl,eG.o.then_ hb,rfl⟩
end
set_option maxRecDepth 100000
set_option maxHeartbeats 4000000
section
variable {E:Env} {G:Gr} {lo:Nat} {w:World} {i:Nat} {b:Bool}
theorem ff {α:Type} {q:Bool} {x:PM α} {r:Except Int (α×Ps)} (h:fP q x (i,b)=some r):∃ rx,x (i,q)=some rx∧r=match rx with
    | .error p=>.error p
    | .ok (a,s')=>.ok (a,(s'.1,b)):=by
  unfold fP at h;cases hx:x (i,q) with
  | none=>simp only [hx] at h;cases h
  | some rx=>
    simp only [hx] at h;refine ⟨rx,rfl,?_⟩;cases rx with
    | error p=>exact (Option.some.inj h).symm
    | ok aa=>exact (Option.some.inj h).symm
theorem kH (h:PS E w i b) {n:Nat} {first cap args:Array Value} (ha:first ++ cap=args) (BO:∀ w,(callFunc n args).run prog w = .ok (.enter n args) w) {R1 R:Ending→World→Prop}
    (hc:Calls prog n args (w.setCell ⟨E.g,2,none⟩ (.bool false)) R1) (hR:∀ e w2,R1 e w2→(∃ c,e = .panicked c∧R e w2)∨(e = .returned (.tuple #[])∧∃ j c,PS E w2 j c∧R (.returned (.tuple #[])) (w2.setCell ⟨E.g,2,none⟩ (.bool b)))) :
    Calls prog 117 #[(.pointer (some ⟨E.g,0,none⟩)),.func (.func n) first cap] w R:=by
  subst ha;obtain ⟨q0,q1,q2,qf,ql⟩:=h.cells;have HR:=zh hR;have HC:=zh hc;clear hR hc h q0 q1;go_enter func117,ntmps117;go_wp2_with fail;refine HC.o.mono ?_;intro e w2 he;rcases HR.o e w2 he with ⟨c,rfl,hr⟩ | ⟨rfl,j,c,hp,hr⟩
  · go_wp2_with fail
    exact ⟨rfl,hr⟩
  · obtain ⟨z0,z1,z2,zf,zl⟩:=hp.cells
    have HH:=zh hr;clear hr hp he;go_wp2_with fail
    go_end0
    exact HH.o
theorem B6 (args:Array Value) (w:World):(callFunc 138 args).run prog w = .ok (.enter 138 args) w:=by kernel_rfl
theorem ej (hE:eH E) (hF:GF E.ts G lo) (hO:OkG E G) (dA:lo≤i) {r:Except Int (No×Ps)} (hr:fG E.ts G (i,b)=some r) (h:PS E w i b):Calls prog 99 #[(.pointer (some ⟨E.g,0,none⟩))] w (cV E eh w (lp w) r):=by
  have fU:=h.glt;have ic:=h.lt;have iS:=hE.len;have eY:=h.ilt;have HP:=zh h;have HE:=zh hE;have cT:Hd (ay (fun k=>gX E k) w w):=zh zb;have HF:=zh hF;have HO:=zh hO;clear hF hO;clear h hE;have iM:=aO;have iT:=aU;have jf:=aT;have iL:=aS;go_enter func99,ntmps99;unfold fG at hr;replace hr:=eu hr;go_wp2_with fail;refine eO (E:=E) (cY HE.o (HP.o.alloc _)) ?_;intro w1 hb hx et hw;have cM:=cW w.heap.size hx;have bp:=dX HP hb;have a7:=b0 cT hw;clear hw hb hx;obtain ⟨ry,h0,hr⟩:=ag hr;obtain ⟨rz,hz,rfl⟩:=ff h0;clear h0;obtain ⟨nb,rF,rE,na,m_⟩:=bp.o.cells;go_wp2_with fail;refine (ni (lo:=i+1) HE.o (fun pb FN=>ri FN (fun w i2 b r hi cq hr=>HO.o.stmt hr cq (by omega)) (fun j b hj h=>HF.o.stmt _ _ (by omega) h) (fun w=>B6 _ w)) rfl (fun j hj h=>HF.o.stmt _ _ (by omega) h) (by omega) hz (bp.o.set2 false)).mono ?_;rintro e w2 hp;rcases rz with p | ⟨l2,i2,b2⟩
  ·
   obtain ⟨hb,rfl⟩:=hp;dsimp only at hr;subst hr;go_wp2_with fail;exact ⟨rfl,(a7.o.set_ (p:=⟨E.g,2,none⟩) (.inr (.inl rfl)) _).trans hb mg,rfl⟩
  have L5:=(jN (ts:=E.ts) (one:=G.stmt) (i:=i) (b:=false) HE.o.wt eY (fun j hj h=>HF.o.stmt _ _ (by omega) h)).2 _ _ hz;dsimp only at L5 hr;obtain ⟨sC,-,wO⟩:=L5;subst b2;obtain ⟨hb,hp,v,rfl,A2,c2,rfl,ae⟩:=hp;(try dsimp only at hp ae);have ep:=hb.size;(try simp at ep);have hw:ay (Xs E []) w1 w2:=(zb.set_ (p:=⟨E.g,2,none⟩) (.inr (.inl rfl)) _).trans hb xg;have bO:=k0 cM hw;have bn:=zh hp;have aE:=b0 a7 hw;clear nb rF rE na m_ cM bp a7 hw;have pz:=zm (lo:=w1.heap.size) ae;clear ae hb hp hz;obtain ⟨nb,rF,rE,na,m_⟩:=bn.o.cells;go_wp2_with fail;refine (ak HE.o (bn.o.set2 b) (by omega)).mono ?_;rintro e w3 ⟨rfl,hb⟩;have hx:=rn (E:=E) hb;have fK:=hx.size;(try simp at fK);have hw:ay (Xs E []) w2 w3:=(zb.set_ (p:=⟨E.g,2,none⟩) (.inr (.inl rfl)) _).trans hx xg;have cC:=k0 bO hw;have uj:=r0 pz hw;have bD:=zh ((bn.o.set2 b).below hb);have be:=b0 aE hw;clear nb rF rE na m_ bO pz bn aE hw hb hx;obtain ⟨di,dh,de,dd,dc,db,da⟩:=cC.o.cells5;go_wp2_with fail;obtain rfl:=a6 hr;exact am (r:=w.heap.size) results99 (by rfl) cC.o.p5 (by rfl) ⟨be.o.s5,bD.o.f6,_,rfl,_,_,rfl,(zw uj)⟩
theorem xv (hE:eH E) (hF:GF E.ts G lo) (hO:OkG E G) {pb:Nat} (rv:pb≠E.g) (uc:pb≠E.a) {u_:Unit} {r:Except Int ((No×Unit)×Ps)} (hr:jm E.ts G u_ (i,b)=some r) (h:PS E w i b) (hi:lo<i)
    (hp:aj w pb 49 #[(.pointer (some ⟨E.g,0,none⟩))]) :
    Calls prog 154 #[.pointer (some ⟨pb,0,none⟩)] w (cV E (fun k=>k=pb) w (fun w' x v=>lp w w' x.1 v∧aj w' pb 49 #[(.pointer (some ⟨E.g,0,none⟩))]) r):=by
  have fU:=h.glt;have ic:=h.lt;have iS:=hE.len;have eY:=h.ilt;have AD:=hp.lt;have HP:=zh h;have HE:=zh hE;have HF:=zh hF;have HO:=zh hO;have lx:=zh hp;have cT:Hd (ay (fun k=>k=E.g∨(k=pb)) w w):=zh zb;clear h hE hF hO hp;go_enter func154,ntmps154;unfold jm at hr;replace hr:=bW hr;replace hr:=nn hr;obtain ⟨bg,bi,bh⟩:=lx.o.c1;go_wp2_with fail;refine eO (E:=E) (gD HE.o (HP.o.alloc _)) ?_;intro w1 hb hx et hw;have d5:=k0 lx hw;have cM:=cW w.heap.size hx;have bp:=dX HP hb;have a7:=b0 cT hw;clear bg bi bh lx hw hb hx;by_cases hk:(E.tok i).k=1
  ·
   rw [show decide ((E.tok i).k=1)=true from decide_eq_true hk];obtain ⟨bg,bi,bh⟩:=d5.o.c1;go_wp2_with fail;refine mr (E:=E) (lP (n:=1) HE.o bp.o (by omega)) ?_;intro w2 hb hx ep hw;obtain ⟨dU,bO⟩:=dJ d5 cM hw;have bn:=fN bp hb;have aE:=b0 a7 hw;clear bg bi bh d5 cM bp a7 hw hb hx;go_wp2_with fail;refine eO (E:=E) (mQ (t:=(E.tok (min (i+1) (E.ts.length - 1)))) (l:=[⟨#[58]⟩]) (aW (n:=w2.heap.size) [⟨#[58]⟩] (by simp) (by simp)) (ba (by simp))) ?_;intro w3 hb hx fK hw;obtain ⟨eQ,cC⟩:=dJ dU bO hw;have bD:=dX bn hb;have be:=b0 aE hw;clear dU bO bn aE hw hb hx;by_cases hq:oneOf (E.tok (min (i+1) (E.ts.length - 1))) [⟨#[58]⟩]=true
   ·
    rw [if_pos ⟨hk,hq⟩] at hr;rw [hq];clear hq hk;obtain ⟨bg,bi,bh⟩:=eQ.o.c1;go_wp2_with fail;by_cases hq:(E.tok i).k=1
    case neg=>
     replace hr:=bY hr hq;subst hr;refine (dV HE.o bD.o hq).mono ?_;rintro e wz ⟨rfl,hb⟩;go_wp2_with fail;exact ⟨rfl,be.o.then_ hb,rfl⟩
    case pos=>
     replace hr:=bX hr hq;refine xP (dn HE.o bD.o hq) ?_;intro w4 hp hb hx iV hw;obtain ⟨fC,cS⟩:=dJ eQ cC hw;have bM:=zh hp;have bu:=b0 be hw;clear bg bi bh eQ cC bD be hw hb hx hp;have lw:=nN w4 (E.tok i);clear hq;obtain ⟨bg,bi,bh⟩:=fC.o.c1;go_wp2_with fail;by_cases hq:oneOf (E.tok (i+1)) [⟨#[58]⟩]=true
     case neg=>
      replace hq:=Bool.eq_false_iff.2 hq;replace hr:=aZ hr hq;subst hr;refine (ci (x:=⟨#[58]⟩) HE.o (bM.o.alloc _) hq).mono ?_;rintro e wz ⟨rfl,hb⟩;go_wp2_with fail;exact ⟨rfl,(bu.o.alloc _).then_ hb,rfl⟩
     case pos=>
      replace hr:=aY hr hq;refine (bI (x:=⟨#[58]⟩) HE.o (bM.o.alloc _) hq).mono ?_;rintro e w5 ⟨rfl,hp,hb⟩;simp only [cu];obtain ⟨hx,jY,hw⟩:=Gh (E:=E) hb;obtain ⟨fy,cN⟩:=dJ fC cS hw;have mj:=cW w4.heap.size hx;have kD:=n0 lw hw;have bH:=zh hp;have a8:=b0 bu hw;clear bg bi bh fC cS lw bM bu hw hb hx hp hq;obtain ⟨bg,bi,bh⟩:=fy.o.c1;go_wp2_with fail;obtain ⟨rx,h1,hr⟩:=ag hr;refine (HO.o.expr h1 bH.o).mono ?_;rintro e w6 hp;rcases rx with p | ⟨x6,i6,b6⟩
      ·
       obtain ⟨hb,rfl⟩:=hp;cases hr;(try go_wp2_with fail);exact ⟨rfl,a8.o.trans hb mg,rfl⟩
      (try dsimp only at hr);obtain ⟨xj,rfl⟩:=zf ((HF.o.expr _ _ (by omega) bH.o.ilt).2 _ _ h1);obtain ⟨hb,hp,v,rfl,A6,c6,rfl,ae⟩:=hp;(try dsimp only at hp ae);obtain ⟨iK,hw⟩:=ez hb;obtain ⟨fe,cJ,mi⟩:=fq fy cN mj hw;have kM:=n0 kD hw;have bC:=zh hp;have aR:=b0 a8 hw;clear bg bi bh fy cN mj kD bH a8 hw;have gm:=zn (lo:=w5.heap.size) ae;clear ae hb hp h1;obtain ⟨bg,bi,bh⟩:=fe.o.c1;obtain ⟨jB,jA,jz,jy,jx,jw,ju⟩:=mi.o.cells5;go_wp2_with fail;refine kT (E:=E) (ak HE.o ((bC.o.alloc _).alloc _) (by omega)) ?_;intro w7 hb hx fz hw;obtain ⟨eb,cQ,nU⟩:=fq fe cJ mi hw;have pB:=fJ w6.heap.size hx;have sW:=cW (w6.heap.size+1) hx;have lA:=n0 kM hw;have ie:=n0 gm hw;have bR:=kG bC hb;have bf:=b0 aR hw;clear bg bi bh jB jA jz jy jx jw ju fe cJ mi kM gm bC aR hw hb hx;obtain ⟨di,dh,de,dd,dc,db,da⟩:=cQ.o.cells5;go_wp2_with fail;replace hr:=bv hr;obtain rfl:=ar hr
      exact am (r:=w.heap.size) results154 (by rfl) cQ.o.p5 (by rfl) ⟨bf.o.s5,bR.o.f6,_,rfl,⟨⟨_,_,rfl,aJ (n:=2) sW.o.f5 (aC.cons_ (zv (E:=E) lA) (aC.one (zv (E:=E) ie))) rfl (by decide) (⟨by omega,by simp <;> omega⟩)⟩,eb.o.f5⟩⟩
   ·
    rw [if_neg (fun e=>hq e.2)] at hr;rw [Bool.eq_false_iff.2 hq];clear hq hk;obtain ⟨bg,bi,bh⟩:=eQ.o.c1;go_wp2_with fail;obtain ⟨rx,h1,hr⟩:=ag hr;refine (HO.o.expr h1 bD.o).mono ?_;rintro e w4 hp;rcases rx with p | ⟨x4,i4,b4⟩
    ·
     obtain ⟨hb,rfl⟩:=hp;cases hr;(try go_wp2_with fail);exact ⟨rfl,be.o.trans hb mg,rfl⟩
    (try dsimp only at hr);obtain ⟨Ea,rfl⟩:=zf ((HF.o.expr _ _ (by omega) bD.o.ilt).2 _ _ h1);obtain ⟨hb,hp,v,rfl,A4,c4,rfl,ae⟩:=hp;(try dsimp only at hp ae);obtain ⟨iV,hw⟩:=ez hb;obtain ⟨fC,cS⟩:=dJ eQ cC hw;have bM:=zh hp;have bu:=b0 be hw;clear bg bi bh eQ cC bD be hw;have se:=zn (lo:=w3.heap.size) ae;clear ae hb hp h1;obtain ⟨di,dh,de,dd,dc,db,da⟩:=cS.o.cells5;go_wp2_with fail;obtain rfl:=ar hr;exact am (r:=w.heap.size) results154 (by rfl) cS.o.p5 (by rfl) ⟨bu.o.s5,bM.o.f6,_,rfl,⟨⟨_,_,rfl,(zv (E:=E) se).row_⟩,fC.o.f5⟩⟩
  ·
   rw [if_neg (fun e=>hk e.1)] at hr;rw [show decide ((E.tok i).k=1)=false from decide_eq_false hk];clear hk;obtain ⟨bg,bi,bh⟩:=d5.o.c1;go_wp2_with fail;obtain ⟨rx,h1,hr⟩:=ag hr;refine (HO.o.expr h1 bp.o).mono ?_;rintro e w2 hp;rcases rx with p | ⟨x2,i2,b2⟩
   ·
    obtain ⟨hb,rfl⟩:=hp;cases hr;(try go_wp2_with fail);exact ⟨rfl,a7.o.trans hb mg,rfl⟩
   (try dsimp only at hr);obtain ⟨sC,rfl⟩:=zf ((HF.o.expr _ _ (by omega) bp.o.ilt).2 _ _ h1);obtain ⟨hb,hp,v,rfl,A2,c2,rfl,ae⟩:=hp;(try dsimp only at hp ae);obtain ⟨ep,hw⟩:=ez hb;obtain ⟨dU,bO⟩:=dJ d5 cM hw;have bn:=zh hp;have aE:=b0 a7 hw;clear bg bi bh d5 cM bp a7 hw;have qx:=zn (lo:=w1.heap.size) ae;clear ae hb hp h1;obtain ⟨di,dh,de,dd,dc,db,da⟩:=bO.o.cells5;go_wp2_with fail;obtain rfl:=ar hr;exact am (r:=w.heap.size) results154 (by rfl) bO.o.p5 (by rfl) ⟨aE.o.s5,bn.o.f6,_,rfl,⟨⟨_,_,rfl,(zv (E:=E) qx).row_⟩,dU.o.f5⟩⟩
theorem vO (args:Array Value) (w:World):(callFunc 154 args).run prog w = .ok (.enter 154 args) w:=by kernel_rfl
theorem Cm (hE:eH E) (hF:GF E.ts G lo) (hO:OkG E G) {pb:Nat} (rv:pb≠E.g) (uc:pb≠E.a) :
    One E (fun k=>k=pb) (fun _ w=>aj w pb 49 #[(.pointer (some ⟨E.g,0,none⟩))]) (jm E.ts G) 154 #[.pointer (some ⟨pb,0,none⟩)] (lo+1) where
  call _ _ _ _ _ dA cq hI hr:=xv hE hF hO rv uc hr cq dA hI
  fine u _ _ dA hi:=oK hE.wt hF dA hi u
  same _ _ _ h k:=(k pb rfl).trans h
  notg e:=rv e.symm
  ent w:=vO _ w
end
set_option maxRecDepth 100000
set_option maxHeartbeats 4000000
section
variable {E:Env} {G:Gr} {lo:Nat} {w:World} {i:Nat} {b:Bool}
theorem PS.drew (h:PS E w i b):PS E w.drew i b:=⟨h.blk,h.tok,h.ne,h.lt,h.ilt⟩
theorem ay.undrew {X:Nat→Prop} {w':World} (h:ay X w.drew w'):ay X w w':=⟨h.os,h.tape,h.output,h.size,h.block⟩
theorem kK {S:Nat→Prop}:∀ {ks:List No} {xs:List Value},aC w S ks xs→∀ u ∈ xs,u.oneCell'=true
  | [],xs,h=>by simp only [aC] at h;subst h;simp
  | t :: ts,xs,h=>by
    simp only [aC] at h;obtain ⟨c1,c2,rfl,a,d⟩:=h;intro u hu;rcases List.mem_append.1 hu with hu | hu
    · obtain ⟨A,c,rfl,-⟩:=a.forms
      exact pu u hu
    · exact kK d u hu
def nw {σ:Type} (E:Env) (X:Nat→Prop) (I:σ→World→Prop) (w:World) (lb base n c:Nat) (B:Option Addr) (xs:List Value) (r:Except Int ((List No×σ)×Ps)) (e:Ending) (w':World):Prop:=
  ay (fun k=>k=E.g∨X k∨k=lb∨(Value.slice B n c).ownBlock=some k) w w'∧match r with
  | .error p=>e = .panicked (Cv p)
  | .ok a=>e = .returned (.tuple #[])∧PS E w' a.2.1 a.2.2∧I a.1.2 w'∧a.1.1.length≤1000000∧
    ∃ B' c' wV,aj w' lb 23 #[.slice B' (n+a.1.1.length) c']∧w'.ownsRow base 25 5 (.slice B' (n+a.1.1.length) c') (n+a.1.1.length) (xs ++ wV)∧aC w' (kE w w') a.1.1 wV∧
      ((Value.slice B' (n+a.1.1.length) c').ownBlock=(Value.slice B n c).ownBlock∨∃ k,(Value.slice B' (n+a.1.1.length) c').ownBlock=some k∧w.heap.size≤k∧k<w'.heap.size)
theorem Ae {σ:Type} {X:Nat→Prop} {I:σ→World→Prop} {lb base n c i2 c3:Nat} {b2:Bool} {B B3:Option Addr} {xs wV:List Value} {w2 w3:World} {l:List No} {u2:σ} (BH:∀ u w w',I u w→(∀ k,X k→w'.heap[k]? = w.heap[k]?)→I u w') (hX:∀ k,X k→k<w.heap.size) (GU:¬ X lb) (fU:E.g<w.heap.size) (ic:E.a<w.heap.size) (ya:lb≠E.g) (Nn:lb≠E.a)
    (Ic:∀ k,(Value.slice B n c).ownBlock=some k→k≠E.g∧k≠E.a∧¬ X k) (hp:PS E w2 i2 b2) (hI:I u2 w2) (eN:l.length≤1000000) (hb:ay (fun k=>k=E.g∨X k) w w2) (how:w.ownsRow base 25 5 (.slice B n c) n xs) (D9:aj w3 lb 23 #[.slice B n c]) (UQ:w3.ownsRow base 25 5 (.slice B3 (n+l.length) c3) (n+l.length) (xs ++ wV))
    (hn:aC w2 (kE w w2) l wV) (hg:w2.grownBy w3 (Value.slice B n c).ownBlock) (cX:(Value.slice B3 (n+l.length) c3).ownBlock=(Value.slice B n c).ownBlock∨(Value.slice B3 (n+l.length) c3).ownBlock=some w2.heap.size) (tB:lb<w.heap.size) :
    nw E X I w lb base n c B xs (.ok ((l,u2),(i2,b2))) (.returned (.tuple #[])) (w3.setCell ⟨lb,0,none⟩ (.slice B3 (n+l.length) c3)):=by
  have ep:=hb.size;have fK:=hg.size;have hs:∀ k,k≠lb→(w3.setCell ⟨lb,0,none⟩ (.slice B3 (n+l.length) c3)).heap[k]? = w3.heap[k]?:=fun k hk=>Below.heap_setCell w3 ⟨lb,0,none⟩ _ k hk;have JB:∀ k,k<w2.heap.size→(Value.slice B n c).ownBlock≠some k→w3.heap[k]? = w2.heap[k]?:=fun k hk hn=>hg.block k hk (fun e=>hn e.symm);have Qw:(Value.slice B n c).ownBlock≠some E.g:=fun e=>(Ic _ e).1 rfl;have UU:(Value.slice B n c).ownBlock≠some E.a:=fun e=>(Ic _ e).2.1 rfl;refine ⟨⟨hg.os.trans hb.os,hg.tape.trans hb.tape,hg.output.trans hb.output,by simp;omega,fun k hk hn=>?_⟩,rfl,?_,?_,eN,B3,c3,wV,?_,?_,?_,?_⟩
  · exact (hs k (fun e=>hn (.inr (.inr (.inl e))))).trans ((JB k (by omega) (fun e=>hn (.inr (.inr (.inr e))))).trans (hb.block k hk (fun e=>hn (by rcases e with e | e;exact .inl e;exact .inr (.inl e)))))
  · exact (hp.same (JB _ (by omega) Qw) (JB _ (by omega) UU) fK).far1 ya Nn _
  · exact BH _ _ _ hI fun k hk=>(hs k (fun e=>GU (e ▸ hk))).trans (JB k (by have:=hX k hk;omega) (fun e=>(Ic _ e).2.2 hk))
  · simpa using D9.set_ 0 (.slice B3 (n+l.length) c3)
  · exact bk UQ fun k hk=>hs k (fun e=>cD UQ D9 (by decide) (e ▸ hk))
  · refine hn.keep (fun k hk=>?_) (fun k hk=>⟨hk.1,by have:=hk.2;simp;omega⟩)
    have h1:=hk.1;exact (hs k (by omega)).trans (JB k hk.2 (fun e=>by have:=(how.lt k e).2;omega))
  · rcases cX with h | h
    · exact .inl h
    · exact .inr ⟨_,h,ep,by have:=(UQ.lt _ h).2;simp;omega⟩
theorem rm {ts:List Tk} (hw:WT ts) {σ:Type} {closing:ByteArray} {least:Nat} {one:σ→PM (No×σ)} (h1:∀ u i,lo≤i→i<ts.length→qF ts (i+1) (one u) i b) {l:List No} {u':σ} {s:Ps} :
    ∀ (f:Nat) (u:σ) (out:List No) (i:Nat),lo≤i→i<ts.length→fp ts closing least one f u out (i,b)=some (.ok ((l,u'),s))→l.length+i≤out.length+s.1∧s.1<ts.length
  | 0,_,_,_,_,_,h=>by simp [fp] at h
  | f+1,u,out,i,hl,hi,h=>by
    unfold fp at h;replace h:=cZ (E:=⟨0,0,0,0,ts⟩) h;split at h
    · cases Option.some.inj h
      exact ⟨Nat.le_refl _,hi⟩
    · obtain ⟨rx,h2,h3⟩:=ag h
      cases rx with
      | error p=>cases h3
      | ok aa=>
        obtain ⟨⟨x,u2⟩,i2,b2⟩:=aa;obtain ⟨g1,g2,g3⟩:=(h1 u i hl hi).2 _ _ h2;dsimp only at g1 g2 g3 h3;subst b2;by_cases hq:oneOf (ap ts i2) [⟨#[44]⟩]=true
        · replace h3:=aM (E:=⟨0,0,0,0,ts⟩) h3 hq
          rw [if_pos rfl] at h3;have:=rm hw h1 f u2 _ (i2+1) (by omega) (hw.nxt _ g2 (cF hq)) h3;simp only [List.length_append,List.length_cons,List.length_nil] at this;omega
        · replace h3:=aN (E:=⟨0,0,0,0,ts⟩) h3 (Bool.eq_false_iff.2 hq)
          rw [if_neg Bool.false_ne_true] at h3;cases Option.some.inj h3;simp;omega
theorem sL (hE:eH E) {σ:Type} {X:Nat→Prop} {I:σ→World→Prop} {one:σ→PM (No×σ)} {lb pb base n c:Nat} {B:Option Addr} {xs:List Value} (ho:One E X I one 154 #[.pointer (some ⟨pb,0,none⟩)] lo) {u:σ} (h:PS E w i b) (hI:I u w) (dA:lo≤i) (hX:∀ k,X k→k<w.heap.size)
    (hl:aj w lb 23 #[.slice B n c]) (aD:w.ownsRow base 25 5 (.slice B n c) n xs) (hp:aj w pb 49 #[(.pointer (some ⟨E.g,0,none⟩))]) (ya:lb≠E.g) (Nn:lb≠E.a) (GU:¬ X lb) (Ic:∀ k,(Value.slice B n c).ownBlock=some k→k≠E.g∧k≠E.a∧¬ X k) (hn:n≤10) (pU:base≤w.heap.size) {r:Except Int ((List No×σ)×Ps)} (hr:fp E.ts ⟨#[125]⟩ 0 one (E.ts.length+1) u [] (i,b)=some r) :
    Calls prog 153 #[.pointer (some ⟨lb,0,none⟩),.pointer (some ⟨pb,0,none⟩)] w (nw E X I w lb base n c B xs r):=by
  have iS:=hE.len;have eY:=h.ilt;have AD:=hp.lt;have tB:=hl.lt;have Rw:=hl.cell 0;have WN:=hl.frozen 0;have FM:=hp.cell 0;simp at Rw FM;have HP:=zh h;have HE:=zh hE;have HO:=zh ho;have HI:=zh hI;have HX:=zh hX;have HL:=zh hl;have HW:=zh aD;have HG:=zh Ic;have Jy:=zh GU;have Uc:=zh GU;have fU:=h.glt;have ic:=h.lt;have HR:=zh hr;clear h hE ho hI hX hl aD hp Ic GU hr;obtain ⟨i0,fL,ga,f_,fZ⟩:=info_parts dO;go_enter func153,ntmps153
  go_region_law
    (first
      | (go_simp
         go_at_call 95
         refine (iC (closing:=⟨#[125]⟩) (least:=0) HE.o HO.o rfl HR.o HP.o.drew (HO.o.same _ _ _ HI.o fun _ _=>rfl) dA (by omega) HX.o).mono ?_;rintro e w2 ⟨cK,jM⟩;rcases r with p | ⟨⟨l,u2⟩,i2,b2⟩
         · obtain rfl:=jM
           exact ⟨rfl,cK.undrew.mono fun _ _ h=>by rcases h with h | h;exact .inl h;exact .inr (.inl h),rfl⟩
         obtain ⟨cq,v,rfl,⟨A2,c2,rfl,wV,ae,j_⟩,JK⟩:=jM;try dsimp only at cq ae j_ JK
         have eN:l.length≤1000000:=by
           have:=rm HE.o.wt (fun u j hj h=>HO.o.fine u j b hj h) _ _ _ i dA eY HR.o;simp at this;omega
         have ep:=cK.size;(try simp at ep);have aE:Hd (ay (fun k=>k=E.g∨X k) w w2):=zh cK.undrew;have bn:=zh cq;have Db:=zh JK;have g_:=zh ae;have jD:Hd (aC w2 (kE w w2) l wV):=zh j_;have AA:=zh (HL.o.but aE.o (fun e=>by rcases e with e | e;exact ya e;exact Uc.o e));have N':=zh (bk HW.o fun k hk=>aE.o.block k (HW.o.lt k hk).2 (fun e=>by rcases e with e | e;exact (HG.o k hk).1 e;exact (HG.o k hk).2.2 e));have wL:=AA.o.cell 0;simp at wL
         clear cK cq JK ae j_)
      | (refine bE _ rfl _ _ 23 rfl base 25 i0 _ 5 64 underlying23 fL ga f_ fZ rfl (by omega) (.slice B n c) n xs (by simp [Act.eval]) N'.o (kE w.drew w2) (.slice A2 l.length c2) l.length wV (by simp [Act.eval]) g_.o (kK jD.o) (by unfold maxLen;omega) (by omega) (by omega) ?_
         intro v' w3 aD hg bN cX;obtain ⟨B3,c3,rfl⟩:=cA aD;have P8:=zh aD;have Qe:=zh hg;have tZ:=zh cX;have lu:=zh (AA.o.grown hg (fun e=>cD N'.o AA.o (by decide) e.symm));have wK:=lu.o.cell 0;simp at wK;have lf3:=lu.o.frozen 0;have Yu:=lu.o.lt
         clear aD hg bN cX))
  all_goals
    go_end0
    exact Ae HO.o.same HX.o Jy.o fU ic ya Nn HG.o bn.o Db.o eN aE.o HW.o lu.o P8.o jD.o Qe.o tZ.o tB
theorem Cs (hE:eH E) {σ:Type} {X:Nat→Prop} {I:σ→World→Prop} {one:σ→PM (No×σ)} {lb pb base n c:Nat} {tb:Nat} {B:Option Addr} {xs:List Value} (ho:One E X I one 151 #[.pointer (some ⟨tb,0,none⟩),.pointer (some ⟨pb,0,none⟩)] lo) {u:σ} (h:PS E w i b) (hI:I u w) (dA:lo≤i) (hX:∀ k,X k→k<w.heap.size)
    (hl:aj w lb 23 #[.slice B n c]) (aD:w.ownsRow base 25 5 (.slice B n c) n xs) (hp:aj w pb 49 #[(.pointer (some ⟨E.g,0,none⟩))]) (ya:lb≠E.g) (Nn:lb≠E.a) (GU:¬ X lb) (Ic:∀ k,(Value.slice B n c).ownBlock=some k→k≠E.g∧k≠E.a∧¬ X k) (hn:n≤10) (pU:base≤w.heap.size) {r:Except Int ((List No×σ)×Ps)} (hr:fp E.ts ⟨#[41]⟩ 0 one (E.ts.length+1) u [] (i,b)=some r) :
    Calls prog 150 #[.pointer (some ⟨lb,0,none⟩),.pointer (some ⟨pb,0,none⟩),.pointer (some ⟨tb,0,none⟩)] w (nw E X I w lb base n c B xs r):=by
  have iS:=hE.len;have eY:=h.ilt;have AD:=hp.lt;have tB:=hl.lt;have Rw:=hl.cell 0;have WN:=hl.frozen 0;have FM:=hp.cell 0;simp at Rw FM;have HP:=zh h;have HE:=zh hE;have HO:=zh ho;have HI:=zh hI;have HX:=zh hX;have HL:=zh hl;have HW:=zh aD;have HG:=zh Ic;have Jy:=zh GU;have Uc:=zh GU;have fU:=h.glt;have ic:=h.lt;have HR:=zh hr;clear h hE ho hI hX hl aD hp Ic GU hr;obtain ⟨i0,fL,ga,f_,fZ⟩:=info_parts dO;go_enter func150,ntmps150
  go_region_law
    (first
      | (go_simp
         go_at_call 95
         refine (iC (closing:=⟨#[41]⟩) (least:=0) HE.o HO.o rfl HR.o HP.o.drew (HO.o.same _ _ _ HI.o fun _ _=>rfl) dA (by omega) HX.o).mono ?_;rintro e w2 ⟨cK,jM⟩;rcases r with p | ⟨⟨l,u2⟩,i2,b2⟩
         · obtain rfl:=jM
           exact ⟨rfl,cK.undrew.mono fun _ _ h=>by rcases h with h | h;exact .inl h;exact .inr (.inl h),rfl⟩
         obtain ⟨cq,v,rfl,⟨A2,c2,rfl,wV,ae,j_⟩,JK⟩:=jM;try dsimp only at cq ae j_ JK
         have eN:l.length≤1000000:=by
           have:=rm HE.o.wt (fun u j hj h=>HO.o.fine u j b hj h) _ _ _ i dA eY HR.o;simp at this;omega
         have ep:=cK.size;(try simp at ep);have aE:Hd (ay (fun k=>k=E.g∨X k) w w2):=zh cK.undrew;have bn:=zh cq;have Db:=zh JK;have g_:=zh ae;have jD:Hd (aC w2 (kE w w2) l wV):=zh j_;have AA:=zh (HL.o.but aE.o (fun e=>by rcases e with e | e;exact ya e;exact Uc.o e));have N':=zh (bk HW.o fun k hk=>aE.o.block k (HW.o.lt k hk).2 (fun e=>by rcases e with e | e;exact (HG.o k hk).1 e;exact (HG.o k hk).2.2 e));have wL:=AA.o.cell 0;simp at wL
         clear cK cq JK ae j_)
      | (refine bE _ rfl _ _ 23 rfl base 25 i0 _ 5 64 underlying23 fL ga f_ fZ rfl (by omega) (.slice B n c) n xs (by simp [Act.eval]) N'.o (kE w.drew w2) (.slice A2 l.length c2) l.length wV (by simp [Act.eval]) g_.o (kK jD.o) (by unfold maxLen;omega) (by omega) (by omega) ?_
         intro v' w3 aD hg bN cX;obtain ⟨B3,c3,rfl⟩:=cA aD;have P8:=zh aD;have Qe:=zh hg;have tZ:=zh cX;have lu:=zh (AA.o.grown hg (fun e=>cD N'.o AA.o (by decide) e.symm));have wK:=lu.o.cell 0;simp at wK;have lf3:=lu.o.frozen 0;have Yu:=lu.o.lt
         clear aD hg bN cX))
  all_goals
    go_end0
    exact Ae HO.o.same HX.o Jy.o fU ic ya Nn HG.o bn.o Db.o eN aE.o HW.o lu.o P8.o jD.o Qe.o tZ.o tB
theorem t7 (hE:eH E) {σ:Type} {X:Nat→Prop} {I:σ→World→Prop} {one:σ→PM (No×σ)} {lb pb base n c:Nat} {B:Option Addr} {xs:List Value} (ho:One E X I one 119 #[(.pointer (some ⟨E.g,0,none⟩))] lo) {u:σ} (h:PS E w i b) (hI:I u w) (dA:lo≤i) (hX:∀ k,X k→k<w.heap.size)
    (hl:aj w lb 23 #[.slice B n c]) (aD:w.ownsRow base 25 5 (.slice B n c) n xs) (hp:aj w pb 49 #[(.pointer (some ⟨E.g,0,none⟩))]) (ya:lb≠E.g) (Nn:lb≠E.a) (GU:¬ X lb) (Ic:∀ k,(Value.slice B n c).ownBlock=some k→k≠E.g∧k≠E.a∧¬ X k) (hn:n≤10) (pU:base≤w.heap.size) {r:Except Int ((List No×σ)×Ps)} (hr:fp E.ts ⟨#[93]⟩ 1 one (E.ts.length+1) u [] (i,b)=some r) :
    Calls prog 118 #[.pointer (some ⟨lb,0,none⟩),.pointer (some ⟨pb,0,none⟩)] w (nw E X I w lb base n c B xs r):=by
  have iS:=hE.len;have eY:=h.ilt;have AD:=hp.lt;have tB:=hl.lt;have Rw:=hl.cell 0;have WN:=hl.frozen 0;have FM:=hp.cell 0;simp at Rw FM;have HP:=zh h;have HE:=zh hE;have HO:=zh ho;have HI:=zh hI;have HX:=zh hX;have HL:=zh hl;have HW:=zh aD;have HG:=zh Ic;have Jy:=zh GU;have Uc:=zh GU;have fU:=h.glt;have ic:=h.lt;have HR:=zh hr;clear h hE ho hI hX hl aD hp Ic GU hr;obtain ⟨i0,fL,ga,f_,fZ⟩:=info_parts dO;go_enter func118,ntmps118
  go_region_law
    (first
      | (go_simp
         go_at_call 95
         refine (iC (closing:=⟨#[93]⟩) (least:=1) HE.o HO.o rfl HR.o HP.o.drew (HO.o.same _ _ _ HI.o fun _ _=>rfl) dA (by omega) HX.o).mono ?_;rintro e w2 ⟨cK,jM⟩;rcases r with p | ⟨⟨l,u2⟩,i2,b2⟩
         · obtain rfl:=jM
           exact ⟨rfl,cK.undrew.mono fun _ _ h=>by rcases h with h | h;exact .inl h;exact .inr (.inl h),rfl⟩
         obtain ⟨cq,v,rfl,⟨A2,c2,rfl,wV,ae,j_⟩,JK⟩:=jM;try dsimp only at cq ae j_ JK
         have eN:l.length≤1000000:=by
           have:=rm HE.o.wt (fun u j hj h=>HO.o.fine u j b hj h) _ _ _ i dA eY HR.o;simp at this;omega
         have ep:=cK.size;(try simp at ep);have aE:Hd (ay (fun k=>k=E.g∨X k) w w2):=zh cK.undrew;have bn:=zh cq;have Db:=zh JK;have g_:=zh ae;have jD:Hd (aC w2 (kE w w2) l wV):=zh j_;have AA:=zh (HL.o.but aE.o (fun e=>by rcases e with e | e;exact ya e;exact Uc.o e));have N':=zh (bk HW.o fun k hk=>aE.o.block k (HW.o.lt k hk).2 (fun e=>by rcases e with e | e;exact (HG.o k hk).1 e;exact (HG.o k hk).2.2 e));have wL:=AA.o.cell 0;simp at wL
         clear cK cq JK ae j_)
      | (refine bE _ rfl _ _ 23 rfl base 25 i0 _ 5 64 underlying23 fL ga f_ fZ rfl (by omega) (.slice B n c) n xs (by simp [Act.eval]) N'.o (kE w.drew w2) (.slice A2 l.length c2) l.length wV (by simp [Act.eval]) g_.o (kK jD.o) (by unfold maxLen;omega) (by omega) (by omega) ?_
         intro v' w3 aD hg bN cX;obtain ⟨B3,c3,rfl⟩:=cA aD;have P8:=zh aD;have Qe:=zh hg;have tZ:=zh cX;have lu:=zh (AA.o.grown hg (fun e=>cD N'.o AA.o (by decide) e.symm));have wK:=lu.o.cell 0;simp at wK;have lf3:=lu.o.frozen 0;have Yu:=lu.o.lt
         clear aD hg bN cX))
  all_goals
    go_end0
    exact Ae HO.o.same HX.o Jy.o fU ic ya Nn HG.o bn.o Db.o eN aE.o HW.o lu.o P8.o jD.o Qe.o tZ.o tB
end
def SV (S:Nat→Prop) (lo hi k:Nat):Prop:=S k∨(lo≤k∧k<hi)
theorem Ot {X:Nat→Prop} {S:Nat→Prop} {lo hi:Nat} {w w':World} (h:ay X w w') (h1:∀ k,SV S lo hi k→k<w.heap.size) (h2:∀ k,SV S lo hi k→¬ X k):aI (SV S lo hi) w w':=h.sameOn fun k hk=>⟨h1 k hk,h2 k hk⟩
theorem cP {E:Env} {S:Nat→Prop} {l:List Nat} {lo hi:Nat} {w w':World} (h:ay (Xs E l) w w') (h1:∀ k,SV S lo hi k→k<w.heap.size) (h2:∀ k,SV S lo hi k→¬ Xs E l k):aI (SV S lo hi) w w':=Ot h h1 h2
set_option maxRecDepth 100000
set_option maxHeartbeats 4000000
section
variable {E:Env} {G:Gr} {lo:Nat} {w:World} {i:Nat} {b:Bool}
theorem q_ {S:Nat→Prop} {W1 w2:World} {base lo ab n c':Nat} {B':Option Addr} {t:No} {l:List No} {cs wV:List Value} (aD:w2.ownsRow base 25 5 (.slice B' n c') n (cs ++ wV)) (hn:n=l.length+1)
    (cX:(Value.slice B' n c').ownBlock=(Value.slice (some ⟨ab,0,none⟩) 1 1).ownBlock∨∃ k,(Value.slice B' n c').ownBlock=some k∧W1.heap.size≤k∧k<w2.heap.size) (ht:bG w2 (SV S lo w2.heap.size) t cs) (hl:aC w2 (kE W1 w2) l wV) (h1:lo≤ab) (h2:lo≤W1.heap.size) (h3:ab<w2.heap.size) :
    aQ w2 (SV S lo w2.heap.size) (.slice B' (t :: l).length c') (t :: l):=by
  subst hn;refine ⟨_,Row.of_own aD fun k hk=>?_,aC.cons_ ht (hl.keep zr fun k hk=>.inr ⟨Nat.le_trans h2 hk.1,hk.2⟩)⟩;have hk:(Value.slice B' (l.length+1) c').ownBlock=some k:=hk;rcases cX with h | ⟨k2,h,g1,g2⟩
  · rw [h] at hk
    simp [Value.ownBlock] at hk;subst hk;exact .inr ⟨h1,h3⟩
  · rw [h] at hk
    cases hk;exact .inr ⟨Nat.le_trans h2 g1,g2⟩
theorem rJ (args:Array Value) (w:World):(callFunc 153 args).run prog w = .ok (.enter 153 args) w:=by kernel_rfl
theorem iz (hE:eH E) (hF:GF E.ts G lo) (hO:OkG E G) (dA:lo≤i) {fr:Int} {t:No} {cs:List Value} {S:Nat→Prop} (hS:∀ k,S k→k<w.heap.size∧k≠E.g) (ht:bG w S t cs) {r:Except Int (No×Ps)} (hr:cU E.ts G fr t (i,b)=some r) (h:PS E w i b) :
    Calls prog 123 #[(.pointer (some ⟨E.g,0,none⟩)),.int .i64 fr,.agg cs.toArray] w (cV E eh w (Hl S w) r):=by
  obtain ⟨A0,c0,rfl,-⟩:=ht.forms;have fU:=h.glt;have ic:=h.lt;have iS:=hE.len;have eY:=h.ilt;have HP:=zh h;have HE:=zh hE;have HF:=zh hF;have HO:=zh hO;have HS:=zh hS;have Mz:Hd (bG w (SV S w.heap.size w.heap.size) t [.int .i64 t.k,.int .i64 t.fr,.int .i64 t.to,.string t.tx,.slice A0 t.ks.length c0]):=zh (ht.keep zr fun k h=>.inl h);have cT:Hd (ay (fun k=>gX E k) w w):=zh zb;clear h hE hF hO hS ht;have iM:=aO;have iT:=aU;have jf:=aT;have iL:=aS;go_enter func123,ntmps123;unfold cU at hr;go_wp2_with fail;by_cases hq:oneOf (E.tok i) [⟨#[123]⟩]=true
  case neg=>
   replace hq:=Bool.eq_false_iff.2 hq;replace hr:=aZ hr hq;subst hr;refine (ci (x:=⟨#[123]⟩) HE.o (((((HP.o.alloc _).alloc _).alloc _).alloc _).alloc _) hq).mono ?_;rintro e wz ⟨rfl,hb⟩;go_wp2_with fail;exact ⟨rfl,(((((cT.o.alloc _).alloc _).alloc _).alloc _).alloc _).then_ hb,rfl⟩
  case pos=>
   replace hr:=aY hr hq;refine (bI (x:=⟨#[123]⟩) HE.o (((((HP.o.alloc _).alloc _).alloc _).alloc _).alloc _) hq).mono ?_;rintro e w1 ⟨rfl,hp,hb⟩;simp only [cu];have hx:=xm hb;have et:=hx.size;(try simp at et);have hw:ay (Xs E []) w w1:=(((((zb.alloc _).alloc _).alloc _).alloc _).alloc _).trans hx xg;have d5:Hd (aj w1 w.heap.size 49 #[(.pointer (some ⟨E.g,0,none⟩))]):=zh ((((((aj.new' (by simp)).alloc _).alloc _).alloc _).alloc _).but hx (ng (by omega)));have Kt:Hd (aj w1 (w.heap.size+1) 25 #[.int .i64 t.k,.int .i64 t.fr,.int .i64 t.to,.string t.tx,.slice A0 t.ks.length c0]):=zh (((((aj.new' (by simp)).alloc _).alloc _).alloc _).but hx (ng (by omega)));have cM:=M3 (w.heap.size+2) hx;have TT:=fJ (w.heap.size+3) hx;have KD:=cW (w.heap.size+4) hx;have SX:Hd (bG w1 (SV S w.heap.size w.heap.size) t [.int .i64 t.k,.int .i64 t.fr,.int .i64 t.to,.string t.tx,.slice A0 t.ks.length c0]):=zh (Mz.o.keep (cP hw (fun k hk=>by rcases hk with h1 | ⟨h1,h2⟩;(have h3:=HS.o _ h1;omega);omega) (fun k h1 e=>by rcases h1 with h1 | ⟨h1,h2⟩;(have h3:=HS.o _ h1;rcases e with e | e;omega;(try simp at e) <;> omega);(rcases e with e | e;omega;(try simp at e) <;> omega))) fun _ h=>h);have bp:=zh hp;have a7:=b0 cT hw;clear Mz hw hb hx hp hq;obtain ⟨bg,bi,bh⟩:=d5.o.c1;go_wp2_with fail;obtain ⟨ry,h0,hr⟩:=ag hr;obtain ⟨rz,hz,rfl⟩:=ff h0;clear h0
   refine (kH (R1:=nw E (fun k=>k=w.heap.size) (fun (_:Unit) w'=>aj w' w.heap.size 49 #[(.pointer (some ⟨E.g,0,none⟩))]) _ (w.heap.size+4) w.heap.size 1 1 (some ⟨w.heap.size+3,0,none⟩) [.int .i64 t.k,.int .i64 t.fr,.int .i64 t.to,.string t.tx,.slice A0 t.ks.length c0] rz) bp.o rfl (rJ _) (sL (lo:=lo+1) (base:=w.heap.size) (n:=1) (c:=1) (B:=some ⟨w.heap.size+3,0,none⟩) (xs:=[.int .i64 t.k,.int .i64 t.fr,.int .i64 t.to,.string t.tx,.slice A0 t.ks.length c0]) HE.o (Cm HE.o HF.o HO.o (by omega) (by omega)) (bp.o.set2 false) (d5.o.far1 (r:=E.g) (o:=2) (by omega) _) (by omega) (fun k hk=>by have e:=hk;(try dsimp only at e);simp;omega) (KD.o.far1 (r:=E.g) (o:=2) (by omega) _) (fO (n:=1) (TT.o.far1 (r:=E.g) (o:=2) (by omega) _) (by omega) rfl (by unfold maxLen;omega)) (d5.o.far1 (r:=E.g) (o:=2) (by omega) _) (by omega) (by omega) (by intro e;have e2:=e;(try dsimp only at e2);omega) (fun k hk=>by simp [Value.ownBlock] at hk;subst hk;exact ⟨by omega,by omega,(by intro e;have e2:=e;(try dsimp only at e2);omega)⟩) (by omega) (by simp;omega) hz) ?_);intro e w2 hA;rcases rz with p | ⟨⟨l,u⟩,i2,b2⟩
   ·
    obtain ⟨hb,rfl⟩:=hA;refine .inl ⟨_,rfl,?_⟩;(try dsimp only at hr);subst hr;go_wp2_with fail;exact ⟨rfl,(a7.o.set_ (p:=⟨E.g,2,none⟩) (.inr (.inl rfl)) _).trans hb (fun k hk h=>by rcases h with h | h | h | h;exact .inl h;(have h2:=h;(try dsimp only at h2);exfalso;omega);(exfalso;omega);(simp [Value.ownBlock] at h;exfalso;omega)),rfl⟩
   obtain ⟨hb,rfl,cq,hI,eN,B2,c2,wV,kB,lI,oE,rC⟩:=hA;(try dsimp only at hr cq hI eN kB lI oE rC);obtain ⟨sC,-,wO⟩:=(eZ HE.o.wt (lo+1) (fun u j hj h=>oK HE.o.wt HF.o hj h u) _ _ _ _ (by omega) bp.o.ilt (by omega)).2 _ _ hz;dsimp only at sC wO;subst b2;refine .inr ⟨rfl,i2,false,cq,?_⟩;have jG:ay (fun k=>k=E.g∨k=w.heap.size∨k=w.heap.size+4∨k=w.heap.size+3) _ _:=hb.mono (fun k _ h=>by rcases h with h | h | h | h;exact .inl h;exact .inr (.inl h);exact .inr (.inr (.inl h));exact .inr (.inr (.inr (by simp [Value.ownBlock] at h;exact h.symm))));have ep:=jG.size;(try simp at ep);have hw:ay (Xs E [w.heap.size,w.heap.size+4,w.heap.size+3]) w1 w2:=(zb.set_ (p:=⟨E.g,2,none⟩) (.inr (.inl rfl)) _).trans jG (fun k _ h=>by rcases h with h | h | h | h <;> simp [Xs,h]);have Hq:=k2 Kt hw (by omega) (by simp <;> omega);have bO:=k2 cM hw (by omega) (by simp <;> omega);have QL:Hd (bG w2 (SV S w.heap.size w.heap.size) t [.int .i64 t.k,.int .i64 t.fr,.int .i64 t.to,.string t.tx,.slice A0 t.ks.length c0]):=zh (SX.o.keep (cP hw (fun k hk=>by rcases hk with h1 | ⟨h1,h2⟩;(have h3:=HS.o _ h1;omega);omega) (fun k h1 e=>by rcases h1 with h1 | ⟨h1,h2⟩;(have h3:=HS.o _ h1;rcases e with e | e;omega;(try simp at e) <;> omega);(rcases e with e | e;omega;(try simp at e) <;> omega))) fun _ h=>h);have bn:=zh cq;have aE:=YtfmgdmeopakdaaaGreatDoor.b2 a7 hw (by simp <;> omega);clear bg bi bh d5 Kt cM TT KD SX bp a7 hw;rw [Nat.add_comm 1 l.length] at kB lI rC;have H1:Hd (aj w2 (w.heap.size+4) 23 #[.slice B2 (l.length+1) c2]):=zh kB;have pz:Hd (aQ w2 (SV S (w.heap.size+3) w2.heap.size) (.slice B2 (l.length+1) c2) (t :: l)):=zh (q_ (t:=t) lI rfl rC (QL.o.keep zr fun k hk=>by rcases hk with h1 | ⟨h1,h2⟩;exact .inl h1;exact .inr ⟨by omega,by omega⟩) oE (by omega) (by simp;omega) (by omega));clear QL hb jG cq kB lI rC oE hz;have dU:Hd (aj w2 w.heap.size 49 #[(.pointer (some ⟨E.g,0,none⟩))]):=zh hI;clear hI;obtain ⟨bg,bi,bh⟩:=dU.o.c1;go_wp2_with fail;by_cases hq:oneOf (E.tok i2) [⟨#[125]⟩]=true
   case neg=>
    replace hq:=Bool.eq_false_iff.2 hq;replace hr:=aZ hr hq;subst hr;refine (ci (x:=⟨#[125]⟩) HE.o (bn.o.set2 b) hq).mono ?_;rintro e wz ⟨rfl,hb⟩;go_wp2_with fail;exact ⟨rfl,(aE.o.set_ (p:=⟨E.g,2,none⟩) (.inr (.inl rfl)) _).then_ hb,rfl⟩
   case pos=>
    replace hr:=aY hr hq;refine (bI (x:=⟨#[125]⟩) HE.o (bn.o.set2 b) hq).mono ?_;rintro e w3 ⟨rfl,hp,hb⟩;simp only [cu];have hx:=xm hb;have fK:=hx.size;(try simp at fK);have hw:ay (Xs E []) w2 w3:=(zb.set_ (p:=⟨E.g,2,none⟩) (.inr (.inl rfl)) _).trans hx xg;obtain ⟨PW,cC,Fa,eQ⟩:=jd Hq bO H1 dU hw;have uj:Hd (aQ w3 (SV S (w.heap.size+3) w2.heap.size) (.slice B2 (l.length+1) c2) (t :: l)):=zh (pz.o.keep (cP hw (fun k hk=>by rcases hk with h1 | ⟨h1,h2⟩;(have h3:=HS.o _ h1;omega);omega) (fun k h1 e=>by rcases h1 with h1 | ⟨h1,h2⟩;(have h3:=HS.o _ h1;rcases e with e | e;omega;(try simp at e) <;> omega);(rcases e with e | e;omega;(try simp at e) <;> omega))) fun _ h=>h);have bD:=zh hp;have be:=b0 aE hw;clear bg bi bh Hq bO H1 dU pz bn aE hw hb hx hp hq;obtain ⟨bg,bi,bh⟩:=eQ.o.c1;obtain ⟨Jh,Jg,Jf⟩:=Fa.o.c1;go_wp2_with fail;refine mr (E:=E) (ak HE.o bD.o (by omega)) ?_;intro w4 hb hx iV hw;obtain ⟨Ktv4,cS,MM,fC⟩:=jd PW cC Fa eQ hw;have xD:Hd (aQ w4 (SV S (w.heap.size+3) w2.heap.size) (.slice B2 (l.length+1) c2) (t :: l)):=zh (uj.o.keep (cP hw (fun k hk=>by rcases hk with h1 | ⟨h1,h2⟩;(have h3:=HS.o _ h1;omega);omega) (fun k h1 e=>by rcases h1 with h1 | ⟨h1,h2⟩;(have h3:=HS.o _ h1;rcases e with e | e;omega;(try simp at e) <;> omega);(rcases e with e | e;omega;(try simp at e) <;> omega))) fun _ h=>h);have bM:=fN bD hb;have bu:=b0 be hw;clear bg bi bh Jh Jg Jf PW cC Fa eQ uj bD be hw hb hx;obtain ⟨di,dh,de,dd,dc,db,da⟩:=cS.o.cells5;go_wp2_with fail;obtain rfl:=a6 hr
    exact am (r:=w.heap.size+2) results123 (by rfl) cS.o.p5 (by rfl) ⟨bu.o.s5,bM.o.f6,_,rfl,_,_,rfl,(xD.o.keep ((aI.refl (SV S (w.heap.size+3) w2.heap.size) w4).set5 (by intro hk;rcases hk with h1 | ⟨h1,h2⟩;(have h3:=HS.o _ h1;omega);omega) _ _ _ _ _) fun k hk=>by rcases hk with h1 | ⟨h1,h2⟩;exact .inl h1;exact .inr ⟨by omega,by first | omega | (simp;omega)⟩)⟩
end
set_option maxRecDepth 100000
set_option maxHeartbeats 4000000
section
variable {E:Env} {G:Gr} {lo:Nat} {w:World} {i:Nat} {b:Bool}
theorem zz {lo hi n g:Nat} (h1:hi≤n) (h2:g<lo):∀ k,Iv lo hi k→k<n∧k≠g:=fun k hk=>⟨Nat.lt_of_lt_of_le hk.2 h1,fun e=>by have:=hk.1;omega⟩
theorem zi (hE:eH E) (hF:GF E.ts G lo) (hO:OkG E G) (dA:lo≤i) {r:Except Int (No×Ps)} (hr:gh E.ts G (i,b)=some r) (h:PS E w i b):Calls prog 121 #[(.pointer (some ⟨E.g,0,none⟩))] w (cV E eh w (lp w) r):=by
  have fU:=h.glt;have ic:=h.lt;have iS:=hE.len;have eY:=h.ilt;have HP:=zh h;have HE:=zh hE;have cT:Hd (ay (fun k=>gX E k) w w):=zh zb;have HF:=zh hF;have HO:=zh hO;clear hF hO;clear h hE;have iM:=aO;have iT:=aU;have jf:=aT;have iL:=aS;go_enter func121,ntmps121;unfold gh at hr;go_wp2_with fail;by_cases hq:(E.tok i).k=1
  case neg=>
   replace hr:=bY hr hq;subst hr;refine (dV HE.o (HP.o.alloc _) hq).mono ?_;rintro e wz ⟨rfl,hb⟩;go_wp2_with fail;exact ⟨rfl,(cT.o.alloc _).then_ hb,rfl⟩
  case pos=>
   replace hr:=bX hr hq;refine qd (dn HE.o (HP.o.alloc _) hq) ?_;intro w1 hp hb hx et hw;have cM:=cW w.heap.size hx;have bp:=zh hp;have a7:=b0 cT hw;clear hw hb hx hp;have wR:=nN w1 (E.tok i);clear hq;replace hr:=Hc hr;cases b
   case true=>
    rw [if_pos rfl] at hr;obtain ⟨nb,rF,rE,na,m_⟩:=bp.o.cells;obtain ⟨di,dh,de,dd,dc,db,da⟩:=cM.o.cells5;go_wp2_with fail;obtain rfl:=ar hr;exact am (r:=w.heap.size) results121 (by rfl) ((cM.o.p5).alloc _) (by rfl) ⟨((a7.o.s5).alloc _),((bp.o.f6).alloc _),_,rfl,_,_,rfl,(nk wR ((zr.set5 (iv (by omega)) _ _ _ _ _).za _) (by omega) (by first|omega|simp<;>omega)).row_⟩
   case false=>
    rw [if_neg Bool.false_ne_true] at hr;obtain ⟨nb,rF,rE,na,m_⟩:=bp.o.cells;go_wp2_with fail;replace hr:=cZ hr;refine kT (E:=E) (bm (l:=[⟨#[123]⟩]) HE.o ((bp.o.alloc _).alloc _) (aW (n:=w1.heap.size+1) [⟨#[123]⟩] (by simp) (by simp)) (ba (by simp))) ?_;intro w2 hb hx ep hw;have bO:=k0 cM hw;have sj:=fJ w1.heap.size hx;have kS:=n0 wR hw;have bn:=kG bp hb;have aE:=b0 a7 hw;clear nb rF rE na m_ cM wR bp a7 hw hb hx;by_cases hq:oneOf (E.tok (i+1)) [⟨#[123]⟩]=true
    ·
     rw [hq];(try rw [if_pos hq] at hr);clear hq;obtain ⟨jB,jA,jz,jy,jx,jw,ju⟩:=sj.o.cells5;go_wp2_with fail;refine (iz HE.o HF.o HO.o (by omega) (zz (by first | omega | (simp;done) | (simp;omega)) (by omega)) (kS.o.keep zr fun _ h=>h) hr bn.o).mono ?_;rintro e w3 hp;rcases r with p | ⟨x,i2,b2⟩
     ·
      obtain ⟨hb,rfl⟩:=hp;go_wp2_with fail;exact ⟨rfl,aE.o.trans hb mg,rfl⟩
     obtain ⟨hb,hp,v,rfl,A2,c2,rfl,ae⟩:=hp;(try dsimp only at hp ae);obtain ⟨fK,hw⟩:=ez hb;obtain ⟨cC,pD⟩:=dJ bO sj hw;have nR:=n0 kS hw;have bD:=zh hp;have be:=b0 aE hw;clear jB jA jz jy jx jw ju bO sj kS bn aE hw;have po:Hd (aQ w3 (Iv (w.heap.size+1) w3.heap.size) (.slice A2 x.ks.length c2) x.ks):=zh (ae.keep zr fun k hk=>(by rcases hk with ⟨h1,h2⟩ | ⟨h1,h2⟩;exact ⟨by omega,by omega⟩;exact ⟨by (try simp at h1);omega,h2⟩));obtain ⟨di,dh,de,dd,dc,db,da⟩:=cC.o.cells5;go_wp2_with fail;exact am (r:=w.heap.size) results121 (by rfl) cC.o.p5 (by rfl) ⟨be.o.s5,bD.o.f6,_,rfl,_,_,rfl,(zw po)⟩
    ·
     replace hq:=Bool.eq_false_iff.2 hq;rw [hq];(try rw [if_neg (Bool.eq_false_iff.1 hq)] at hr);clear hq;go_wp2_with fail;replace hr:=cZ hr;refine eO (E:=E) (bm (l:=[⟨#[46]⟩]) HE.o (bn.o.alloc _) (aW (n:=w2.heap.size) [⟨#[46]⟩] (by simp) (by simp)) (ba (by simp))) ?_;intro w3 hb hx fK hw;obtain ⟨cC,pD⟩:=dJ bO sj hw;have nR:=n0 kS hw;have bD:=dX bn hb;have be:=b0 aE hw;clear bO sj kS bn aE hw hb hx;replace hr:=nn hr;replace hr:=nn hr;by_cases hq:oneOf (E.tok (i+1)) [⟨#[46]⟩]=true
     ·
      rw [hq];go_wp2_with fail;refine (lP (n:=1) HE.o bD.o (by omega)).mono ?_;rintro e w4 ⟨rfl,hb⟩;simp only [cu];obtain ⟨hx,iV,hw⟩:=nX (E:=E) hb;obtain ⟨cS,mq⟩:=dJ cC pD hw;have lw:=n0 nR hw;have bM:=fN bD hb;have bu:=b0 be hw;clear cC pD nR bD be hw hb hx;by_cases hk:(E.tok (min (i+1+1) (E.ts.length - 1))).k=1
      ·
       (have sa:((E.tok (min (i+1+1) (E.ts.length - 1))).k == 1)=true:=by simpa using hk);go_wp2_with fail;refine mr (E:=E) (lP (n:=2) HE.o bM.o (by omega)) ?_;intro w5 hb hx jY hw;obtain ⟨cN,mj⟩:=dJ cS mq hw;have kD:=n0 lw hw;have bH:=fN bM hb;have a8:=b0 bu hw;clear cS mq lw bM bu hw hb hx;go_wp2_with fail;refine eO (E:=E) (mQ (t:=(E.tok (min (i+1+2) (E.ts.length - 1)))) (l:=[⟨#[123]⟩]) (aW (n:=w5.heap.size) [⟨#[123]⟩] (by simp) (by simp)) (ba (by simp))) ?_;intro w6 hb hx iK hw;obtain ⟨cJ,mi⟩:=dJ cN mj hw;have kM:=n0 kD hw;have bC:=dX bH hb;have aR:=b0 a8 hw;clear cN mj kD bH a8 hw hb hx;by_cases fT:oneOf (E.tok (min (i+1+2) (E.ts.length - 1))) [⟨#[123]⟩]=true
       ·
        rw [if_pos ⟨hq,hk,fT⟩] at hr;rw [fT];clear hq hk fT sa;replace hr:=sM hr;rw [Nat.add_sub_cancel] at hr;obtain ⟨nb,rF,rE,na,m_⟩:=bC.o.cells;go_wp2_with fail;obtain ⟨rx,h1,hr⟩:=ag hr;refine (iX HE.o h1 (bC.o.set1 (j:=i) eY)).mono ?_;rintro e w7 hp;rcases rx with p | ⟨x7,i7,b7⟩
        ·
         obtain ⟨hb,rfl⟩:=hp;cases hr;(try go_wp2_with fail);exact ⟨rfl,(aR.o.set_ (p:=⟨E.g,1,none⟩) (.inr (.inl rfl)) _).trans hb mg,rfl⟩
        (try dsimp only at hr);obtain ⟨vB,rfl⟩:=zf ((mO HE.o.wt eY).2 _ _ h1);obtain ⟨hb,hp,v,rfl,A7,c7,rfl,ae⟩:=hp;(try dsimp only at hp ae);have fz:=hb.size;(try simp at fz);have hw:ay (Xs E []) w6 w7:=(zb.set_ (p:=⟨E.g,1,none⟩) (.inr (.inl rfl)) _).trans hb xg;obtain ⟨cQ,nU⟩:=dJ cJ mi hw;have lA:=n0 kM hw;have bR:=zh hp;have bf:=b0 aR hw;clear nb rF rE na m_ cJ mi kM bC aR hw;have sg:=zn (lo:=w6.heap.size) ae;clear ae hb hp h1;obtain ⟨jB,jA,jz,jy,jx,jw,ju⟩:=nU.o.cells5;go_wp2_with fail;refine (iz HE.o HF.o HO.o (by omega) (zz (by first | omega | (simp;done) | (simp;omega)) (by omega)) (sg.o.keep (zr.za _) fun _ h=>h) hr (bR.o.alloc _)).mono ?_;rintro e w8 hp;rcases r with p | ⟨x,i2,b2⟩
        ·
         obtain ⟨hb,rfl⟩:=hp;go_wp2_with fail;exact ⟨rfl,(bf.o.alloc _).trans hb mg,rfl⟩
        obtain ⟨hb,hp,v,rfl,A2,c2,rfl,ae⟩:=hp;(try dsimp only at hp ae);have lz:=hb.size;(try simp at lz);have hw:ay (Xs E []) w7 w8:=(zb.alloc _).trans hb xg;obtain ⟨ek,xH⟩:=dJ cQ nU hw;have tT:=cW w7.heap.size hb;have qA:=n0 lA hw;have My:=n0 sg hw;have dr:=zh hp;have dG:=b0 bf hw;clear jB jA jz jy jx jw ju cQ nU lA sg bR bf hw;have qM:Hd (aQ w8 (Iv (w.heap.size+1) w8.heap.size) (.slice A2 x.ks.length c2) x.ks):=zh (ae.keep zr fun k hk=>(by rcases hk with ⟨h1,h2⟩ | ⟨h1,h2⟩;exact ⟨by omega,by omega⟩;exact ⟨by (try simp at h1);omega,h2⟩));obtain ⟨di,dh,de,dd,dc,db,da⟩:=ek.o.cells5;go_wp2_with fail;exact am (r:=w.heap.size) results121 (by rfl) ek.o.p5 (by rfl) ⟨dG.o.s5,dr.o.f6,_,rfl,_,_,rfl,(zw qM)⟩
       ·
        rw [if_neg (fun e=>fT e.2.2)] at hr;rw [Bool.eq_false_iff.2 fT];clear hq hk fT sa;obtain ⟨jB,jA,jz,jy,jx,jw,ju⟩:=mi.o.cells5;obtain ⟨di,dh,de,dd,dc,db,da⟩:=cJ.o.cells5;go_wp2_with fail;obtain rfl:=ar hr;exact am (r:=w.heap.size) results121 (by rfl) cJ.o.p5 (by rfl) ⟨aR.o.s5,bC.o.f6,_,rfl,_,_,rfl,(zv (E:=E) kM).row_⟩
      ·
       (have sa:((E.tok (min (i+1+1) (E.ts.length - 1))).k == 1)=false:=by simpa using hk);rw [if_neg (fun e=>hk e.2.1)] at hr;clear hq hk;obtain ⟨jB,jA,jz,jy,jx,jw,ju⟩:=mq.o.cells5;obtain ⟨di,dh,de,dd,dc,db,da⟩:=cS.o.cells5;go_wp2_with fail;obtain rfl:=ar hr;exact am (r:=w.heap.size) results121 (by rfl) cS.o.p5 (by rfl) ⟨bu.o.s5,bM.o.f6,_,rfl,_,_,rfl,(zv (E:=E) lw).row_⟩
     ·
      replace hq:=Bool.eq_false_iff.2 hq;rw [hq];rw [if_neg (fun e=>Bool.eq_false_iff.1 hq e.1)] at hr;clear hq;obtain ⟨jB,jA,jz,jy,jx,jw,ju⟩:=pD.o.cells5;obtain ⟨di,dh,de,dd,dc,db,da⟩:=cC.o.cells5;go_wp2_with fail;obtain rfl:=ar hr;exact am (r:=w.heap.size) results121 (by rfl) cC.o.p5 (by rfl) ⟨be.o.s5,bD.o.f6,_,rfl,_,_,rfl,(zv (E:=E) nR).row_⟩
end
set_option maxRecDepth 100000
set_option maxHeartbeats 4000000
section
variable {E:Env} {G:Gr} {lo:Nat} {w:World} {i:Nat} {b:Bool}
theorem yt (hE:eH E) (hF:GF E.ts G lo) (hO:OkG E G) (dA:lo<i) {r:Except Int (No×Ps)} (hr:sN E.ts G (i,b)=some r) (h:PS E w i b):Calls prog 119 #[(.pointer (some ⟨E.g,0,none⟩))] w (cV E eh w (lp w) r):=by
  have fU:=h.glt;have ic:=h.lt;have iS:=hE.len;have eY:=h.ilt;have HP:=zh h;have HE:=zh hE;have cT:Hd (ay (fun k=>gX E k) w w):=zh zb;have HF:=zh hF;have HO:=zh hO;clear hF hO;clear h hE;have iM:=aO;have iT:=aU;have jf:=aT;have iL:=aS;go_enter func119,ntmps119;unfold sN at hr;go_wp2_with fail;replace hr:=cZ hr;refine kT (E:=E) (bm (l:=[⟨#[91]⟩,⟨#[99,104,97,110]⟩,⟨#[115,116,114,117,99,116]⟩,⟨#[105,110,116,101,114,102,97,99,101]⟩]) HE.o ((HP.o.alloc _).alloc _) (aW (n:=w.heap.size+1) [⟨#[91]⟩,⟨#[99,104,97,110]⟩,⟨#[115,116,114,117,99,116]⟩,⟨#[105,110,116,101,114,102,97,99,101]⟩] (by simp) (by simp)) (ba (by simp))) ?_;intro w1 hb hx et hw;have cM:=fJ w.heap.size hx;have bp:=kG HP hb;have a7:=b0 cT hw;clear hw hb hx;by_cases hq:oneOf (E.tok i) [⟨#[91]⟩,⟨#[99,104,97,110]⟩,⟨#[115,116,114,117,99,116]⟩,⟨#[105,110,116,101,114,102,97,99,101]⟩]=true
  ·
   rw [hq];(try rw [if_pos hq] at hr);clear hq;replace hr:=eu hr;go_wp2_with fail;refine mr (E:=E) (cY HE.o bp.o) ?_;intro w2 hb hx ep hw;have bO:=k0 cM hw;have bn:=fN bp hb;have aE:=b0 a7 hw;clear cM bp a7 hw hb hx;go_wp2_with fail;replace hr:=cZ hr;refine eO (E:=E) (bm (l:=[⟨#[91]⟩]) HE.o (bn.o.alloc _) (aW (n:=w2.heap.size) [⟨#[91]⟩] (by simp) (by simp)) (ba (by simp))) ?_;intro w3 hb hx fK hw;have cC:=k0 bO hw;have bD:=dX bn hb;have be:=b0 aE hw;clear bO bn aE hw hb hx;have Vo:=zh (Eq.refl (oneOf (E.tok i) [⟨#[91]⟩]));clear Vo;go_wp2_with fail;obtain ⟨rx,h1,hr⟩:=ag hr;refine (HO.o.typ h1 bD.o).mono ?_;rintro e w4 hp;rcases rx with p | ⟨x4,i4,b4⟩
   ·
    obtain ⟨hb,rfl⟩:=hp;cases hr;(try go_wp2_with fail);exact ⟨rfl,be.o.trans hb mg,rfl⟩
   (try dsimp only at hr);obtain ⟨Ea,rfl⟩:=zf ((HF.o.typ _ _ (by omega) eY).2 _ _ h1);obtain ⟨hb,hp,v,rfl,A4,c4,rfl,ae⟩:=hp;(try dsimp only at hp ae);obtain ⟨iV,hw⟩:=ez hb;have cS:=k0 cC hw;have bM:=zh hp;have bu:=b0 be hw;clear cC bD be hw;have pZ:=zn (lo:=w3.heap.size) ae;clear ae hb hp h1;replace hr:=cZ hr;by_cases hs:oneOf (E.tok i) [⟨#[91]⟩]=true
   ·
    rw [hs];go_wp2_with fail;refine kT (E:=E) (bm (l:=[⟨#[123]⟩]) HE.o ((bM.o.alloc _).alloc _) (aW (n:=w4.heap.size+1) [⟨#[123]⟩] (by simp) (by simp)) (ba (by simp))) ?_;intro w5 hb hx jY hw;have cN:=k0 cS hw;have jP:=fJ w4.heap.size hx;have qy:=n0 pZ hw;have bH:=kG bM hb;have a8:=b0 bu hw;clear cS pZ bM bu hw hb hx;by_cases hq:oneOf (E.tok i4) [⟨#[123]⟩]=true
    ·
     rw [hq];rw [if_pos ⟨hs,hq⟩] at hr;clear hs hq;obtain ⟨nC,nB,nA,nz,qQ,ny,nx⟩:=jP.o.cells5;go_wp2_with fail;obtain ⟨rx,h1,hr⟩:=ag hr;refine (iz HE.o HF.o HO.o (by omega) (zz (by first | omega | (simp;done) | (simp;omega)) (by omega)) (qy.o.keep zr fun _ h=>h) h1 bH.o).mono ?_;rintro e w6 hp;rcases rx with p | ⟨x6,i6,b6⟩
     ·
      obtain ⟨hb,rfl⟩:=hp;cases hr;(try go_wp2_with fail);exact ⟨rfl,a8.o.trans hb mg,rfl⟩
     (try dsimp only at hr);obtain ⟨xj,rfl⟩:=zf ((io HE.o.wt HF.o (by omega) bH.o.ilt _ _).2 _ _ h1);obtain ⟨hb,hp,v,rfl,A6,c6,rfl,ae⟩:=hp;(try dsimp only at hp ae);obtain ⟨iK,hw⟩:=ez hb;obtain ⟨cJ,gR⟩:=dJ cN jP hw;have sP:=n0 qy hw;have bC:=zh hp;have aR:=b0 a8 hw;clear nC nB nA nz qQ ny nx cN jP qy bH a8 hw;have od:Hd (bG w6 (Iv w3.heap.size w6.heap.size) x6 [.int .i64 x6.k,.int .i64 x6.fr,.int .i64 x6.to,.string x6.tx,.slice A6 x6.ks.length c6]):=zh (bG.mk_ (n:=x6) (ae.keep zr fun k hk=>(by rcases hk with ⟨h1,h2⟩ | ⟨h1,h2⟩;exact ⟨by omega,by omega⟩;exact ⟨by (try simp at h1);omega,h2⟩)));clear ae hb hp h1 sP;go_wp2_with fail;obtain ⟨rx,h1,hr⟩:=ag hr;refine (HO.o.suffixes h1 (bC.o.alloc _) (od.o.keep (zr.za _) fun _ h=>h) (zz (by first | omega | (simp;done) | (simp;omega)) (by omega)) (by omega)).mono ?_;rintro e w7 hp;rcases rx with p | ⟨x7,i7,b7⟩
     ·
      obtain ⟨hb,rfl⟩:=hp;cases hr;(try go_wp2_with fail);exact ⟨rfl,(aR.o.alloc _).trans hb mg,rfl⟩
     (try dsimp only at hr);obtain ⟨vB,rfl⟩:=zf ((HF.o.suffixes _ _ _ (by omega) bC.o.ilt).2 _ _ h1);obtain ⟨hb,hp,v,rfl,A7,c7,rfl,ae⟩:=hp;(try dsimp only at hp ae);have fz:=hb.size;(try simp at fz);have hw:ay (Xs E []) w6 w7:=(zb.alloc _).trans hb xg;obtain ⟨cQ,kj⟩:=dJ cJ gR hw;have pB:=cW w6.heap.size hb;have oS:=n0 od hw;have bR:=zh hp;have bf:=b0 aR hw;clear cJ gR od bC aR hw;have XI:Hd (bG w7 (Iv w3.heap.size w7.heap.size) x7 [.int .i64 x7.k,.int .i64 x7.fr,.int .i64 x7.to,.string x7.tx,.slice A7 x7.ks.length c7]):=zh (bG.mk_ (n:=x7) (ae.keep zr fun k hk=>(by rcases hk with ⟨h1,h2⟩ | ⟨h1,h2⟩;exact ⟨by omega,by omega⟩;exact ⟨by (try simp at h1);omega,h2⟩)));clear ae hb hp h1 oS;go_wp2_with fail;refine (HO.o.binary hr bR.o (XI.o.keep zr fun _ h=>h) (zz (by first | omega | (simp;done) | (simp;omega)) (by omega)) (by decide) (by omega)).mono ?_;rintro e w8 hp;rcases r with p | ⟨x,i2,b2⟩
     ·
      obtain ⟨hb,rfl⟩:=hp;go_wp2_with fail;exact ⟨rfl,bf.o.trans hb mg,rfl⟩
     obtain ⟨hb,hp,v,rfl,A2,c2,rfl,ae⟩:=hp;(try dsimp only at hp ae);obtain ⟨lz,hw⟩:=ez hb;obtain ⟨ek,tT,AH⟩:=fq cQ kj pB hw;have Ns8:=n0 XI hw;have dr:=zh hp;have dG:=b0 bf hw;clear cQ kj pB XI bR bf hw;have qM:Hd (aQ w8 (Iv w3.heap.size w8.heap.size) (.slice A2 x.ks.length c2) x.ks):=zh (ae.keep zr fun k hk=>(by rcases hk with ⟨h1,h2⟩ | ⟨h1,h2⟩;exact ⟨by omega,by omega⟩;exact ⟨by (try simp at h1);omega,h2⟩));obtain ⟨di,dh,de,dd,dc,db,da⟩:=ek.o.cells5;go_wp2_with fail;exact am (r:=w.heap.size) results119 (by rfl) ek.o.p5 (by rfl) ⟨dG.o.s5,dr.o.f6,_,rfl,_,_,rfl,(zw qM)⟩
    ·
     replace hq:=Bool.eq_false_iff.2 hq;rw [hq];rw [if_neg (fun e=>Bool.eq_false_iff.1 hq e.2)] at hr;clear hs hq;obtain ⟨nC,nB,nA,nz,qQ,ny,nx⟩:=jP.o.cells5;obtain ⟨di,dh,de,dd,dc,db,da⟩:=cN.o.cells5;go_wp2_with fail;obtain rfl:=ar hr;exact am (r:=w.heap.size) results119 (by rfl) cN.o.p5 (by rfl) ⟨a8.o.s5,bH.o.f6,_,rfl,_,_,rfl,(zv (E:=E) qy).row_⟩
   ·
    rw [if_neg (fun e=>hs e.1)] at hr;replace hs:=Bool.eq_false_iff.2 hs;rw [hs];clear hs;obtain ⟨di,dh,de,dd,dc,db,da⟩:=cS.o.cells5;go_wp2_with fail;obtain rfl:=ar hr;exact am (r:=w.heap.size) results119 (by rfl) ((cS.o.p5).alloc _) (by rfl) ⟨((bu.o.s5).alloc _),((bM.o.f6).alloc _),_,rfl,_,_,rfl,(nk pZ ((zr.set5 (iv (by omega)) _ _ _ _ _).za _) (by omega) (by first|omega|simp<;>omega)).row_⟩
  ·
   replace hq:=Bool.eq_false_iff.2 hq;rw [hq];(try rw [if_neg (Bool.eq_false_iff.1 hq)] at hr);clear hq;go_wp2_with fail;refine (HO.o.expr hr bp.o).mono ?_;rintro e w2 hp;rcases r with p | ⟨x,i2,b2⟩
   ·
    obtain ⟨hb,rfl⟩:=hp;go_wp2_with fail;exact ⟨rfl,a7.o.trans hb mg,rfl⟩
   obtain ⟨hb,hp,v,rfl,A2,c2,rfl,ae⟩:=hp;(try dsimp only at hp ae);obtain ⟨ep,hw⟩:=ez hb;have bO:=k0 cM hw;have bn:=zh hp;have aE:=b0 a7 hw;clear cM bp a7 hw;have qx:Hd (aQ w2 (Iv w1.heap.size w2.heap.size) (.slice A2 x.ks.length c2) x.ks):=zh (ae.keep zr fun k hk=>⟨by have h1:=hk.1;(try simp at h1);omega,hk.2⟩);obtain ⟨di,dh,de,dd,dc,db,da⟩:=bO.o.cells5;go_wp2_with fail;exact am (r:=w.heap.size) results119 (by rfl) bO.o.p5 (by rfl) ⟨aE.o.s5,bn.o.f6,_,rfl,_,_,rfl,(zw qx)⟩
end
set_option maxRecDepth 100000
set_option maxHeartbeats 2000000
section
variable {E:Env} {G:Gr} {lo:Nat} {w:World} {i:Nat} {b:Bool}
theorem xy (hE:eH E) (hF:GF E.ts G lo) (hO:OkG E G) {cb pb:Nat} (Ig:cb≠E.g) (rv:pb≠E.g) (K9:cb≠E.a) (uc:pb≠E.a) (Nt:cb≠pb) {lk:Bool} {r:Except Int ((No×Bool)×Ps)} (hr:jq E.ts G lk (i,b)=some r) (h:PS E w i b) (hi:lo<i)
    (hc:aj w cb 9 #[.string (mG lk)]) (hp:aj w pb 49 #[(.pointer (some ⟨E.g,0,none⟩))]) :
    Calls prog 151 #[.pointer (some ⟨cb,0,none⟩),.pointer (some ⟨pb,0,none⟩)] w (cV E (fun k=>k=cb∨k=pb) w (fun w' x v=>lp w w' x.1 v∧aj w' cb 9 #[.string (mG x.2)]∧aj w' pb 49 #[(.pointer (some ⟨E.g,0,none⟩))]) r):=by
  have fU:=h.glt;have ic:=h.lt;have iS:=hE.len;have eY:=h.ilt;have FP:=hc.lt;have AD:=hp.lt;have HP:=zh h;have HE:=zh hE;have HF:=zh hF;have HO:=zh hO;have gj:=zh hc;have lx:=zh hp;have cT:Hd (ay (fun k=>k=E.g∨(k=cb∨k=pb)) w w):=zh zb;clear h hE hF hO hc hp;go_enter func151,ntmps151;unfold jq at hr;cases lk
  case true=>
   replace gj:Hd (aj w cb 9 #[.string ⟨#[46,46,46]⟩]):=gj;rw [if_pos rfl] at hr;replace hr:=d_ hr;obtain ⟨gL,gK,gJ⟩:=gj.o.c1;obtain ⟨bg,bi,bh⟩:=lx.o.c1;go_wp2_with fail;refine (cI HE.o (HP.o.alloc _)).mono ?_;rintro e wz ⟨rfl,hb⟩;subst hr;go_wp2_with fail;exact ⟨rfl,(cT.o.alloc _).then_ hb,rfl⟩
  case false=>
   replace gj:Hd (aj w cb 9 #[.string ⟨#[]⟩]):=gj;rw [if_neg (by decide)] at hr;obtain ⟨gL,gK,gJ⟩:=gj.o.c1;obtain ⟨bg,bi,bh⟩:=lx.o.c1;go_wp2_with fail;obtain ⟨rx,h1,hr⟩:=ag hr;refine (yt HE.o HF.o HO.o (by omega) h1 (HP.o.alloc _)).mono ?_;rintro e w1 hp;rcases rx with p | ⟨x1,i1,b1⟩
   ·
    obtain ⟨hb,rfl⟩:=hp;cases hr;(try go_wp2_with fail);exact ⟨rfl,(cT.o.alloc _).trans hb mg,rfl⟩
   (try dsimp only at hr);obtain ⟨wN,rfl⟩:=zf ((rR HE.o.wt HF.o (by omega) eY).2 _ _ h1);obtain ⟨hb,hp,v,rfl,A1,c1,rfl,ae⟩:=hp;(try dsimp only at hp ae);have et:=hb.size;(try simp at et);have hw:ay (Xs E []) w w1:=(zb.alloc _).trans hb xg;obtain ⟨jH,d5⟩:=dJ gj lx hw;have cM:=cW w.heap.size hb;have bp:=zh hp;have a7:=b0 cT hw;clear gL gK gJ bg bi bh gj lx hw;have wR:=zn (lo:=(w.heap.size+1)) ae;clear ae hb hp h1;obtain ⟨bg,bi,bh⟩:=d5.o.c1;go_wp2_with fail;by_cases hq:oneOf (E.tok i1) [⟨#[46,46,46]⟩]=true
   ·
    replace hr:=aM hr hq;(try rw [if_pos rfl] at hr);refine K4 (K2 [⟨#[46,46,46]⟩] HE bp hq) ?_;intro w2 hp hb hx ep hw;obtain ⟨iq,dU,bO⟩:=fq jH d5 cM hw;have sj:=fJ w1.heap.size hx;have kS:=n0 wR hw;have bn:=zh hp;have aE:=b0 a7 hw;clear bg bi bh jH d5 cM wR bp a7 hw hb hx hp;obtain ⟨gL,gK,gJ⟩:=iq.o.c1;obtain ⟨jB,jA,jz,jy,jx,jw,ju⟩:=sj.o.cells5;obtain ⟨di,dh,de,dd,dc,db,da⟩:=bO.o.cells5;go_wp2_with fail;obtain rfl:=ar hr;exact am (r:=w.heap.size) results151 (by rfl) ((bO.o.far1 (by omega) _).p5) (by rfl) ⟨((aE.o.set1 (.inr (.inr (.inl rfl))) _).s5),((bn.o.far1 (by omega) (by omega) _).f6),_,rfl,⟨⟨_,_,rfl,(nk kS ((zr.set1 (iv (by omega)) _).set5 (iv (by omega)) _ _ _ _ _) (by omega) (by first|omega|simp<;>omega)).row_⟩,((iq.o.put1 _).f5),((dU.o.far1 (by omega) _).f5)⟩⟩
   ·
    replace hq:=Bool.eq_false_iff.2 hq;replace hr:=aN hr hq;(try rw [if_neg Bool.false_ne_true] at hr);refine kT (E:=E) (K3 [⟨#[46,46,46]⟩] HE bp hq) ?_;intro w2 hb hx ep hw;obtain ⟨iq,dU,bO⟩:=fq jH d5 cM hw;have sj:=fJ w1.heap.size hx;have kS:=n0 wR hw;have bn:=kG bp hb;have aE:=b0 a7 hw;clear bg bi bh jH d5 cM wR bp a7 hw hb hx;obtain ⟨gL,gK,gJ⟩:=iq.o.c1;obtain ⟨jB,jA,jz,jy,jx,jw,ju⟩:=sj.o.cells5;obtain ⟨di,dh,de,dd,dc,db,da⟩:=bO.o.cells5;go_wp2_with fail;obtain rfl:=ar hr;exact am (r:=w.heap.size) results151 (by rfl) bO.o.p5 (by rfl) ⟨aE.o.s5,bn.o.f6,_,rfl,⟨⟨_,_,rfl,(zv (E:=E) kS).row_⟩,iq.o.f5,dU.o.f5⟩⟩
theorem vR (args:Array Value) (w:World):(callFunc 151 args).run prog w = .ok (.enter 151 args) w:=by kernel_rfl
theorem Cr (hE:eH E) (hF:GF E.ts G lo) (hO:OkG E G) {cb pb:Nat} (Ig:cb≠E.g) (rv:pb≠E.g) (K9:cb≠E.a) (uc:pb≠E.a) (Nt:cb≠pb) :
    One E (fun k=>k=cb∨k=pb) (fun lk w=>aj w cb 9 #[.string (mG lk)]∧aj w pb 49 #[(.pointer (some ⟨E.g,0,none⟩))]) (jq E.ts G) 151 #[.pointer (some ⟨cb,0,none⟩),.pointer (some ⟨pb,0,none⟩)] (lo+1) where
  call _ _ _ _ _ dA cq hI hr:=xy hE hF hO Ig rv K9 uc Nt hr cq dA hI.1 hI.2
  fine u _ _ dA hi:=oN hE.wt hF dA hi u
  same _ _ _ h k:=⟨(k cb (.inl rfl)).trans h.1,(k pb (.inr rfl)).trans h.2⟩
  notg e:=by rcases e with e | e;exact Ig e.symm;exact rv e.symm
  ent w:=vR _ w
end
set_option maxRecDepth 100000
set_option maxHeartbeats 1000000
section
variable {E:Env} {G:Gr} {lo:Nat} {w:World} {i:Nat} {b:Bool}
theorem zT (args:Array Value) (w:World):(callFunc 150 args).run prog w = .ok (.enter 150 args) w:=by kernel_rfl
theorem ET (hE:eH E) (hF:GF E.ts G lo) (hO:OkG E G) (dA:lo<i) {t:No} {cs:List Value} {S:Nat→Prop} (hS:∀ k,S k→k<w.heap.size∧k≠E.g) (ht:bG w S t cs) {r:Except Int (No×Ps)} (hr:li E.ts G t (i,b)=some r) (h:PS E w i b) :
    Calls prog 120 #[(.pointer (some ⟨E.g,0,none⟩)),.agg cs.toArray] w (cV E eh w (Hl S w) r):=by
  obtain ⟨A0,c0,rfl,-⟩:=ht.forms;have fU:=h.glt;have ic:=h.lt;have iS:=hE.len;have eY:=h.ilt;have HP:=zh h;have HE:=zh hE;have HF:=zh hF;have HO:=zh hO;have HS:=zh hS;have Mz:Hd (bG w (SV S w.heap.size w.heap.size) t [.int .i64 t.k,.int .i64 t.fr,.int .i64 t.to,.string t.tx,.slice A0 t.ks.length c0]):=zh (ht.keep zr fun k h=>.inl h);have cT:Hd (ay (fun k=>gX E k) w w):=zh zb;clear h hE hF hO hS ht;have iM:=aO;have iT:=aU;have jf:=aT;have iL:=aS;go_enter func120,ntmps120;unfold li at hr;go_wp2_with fail;obtain ⟨ry,h0,hr⟩:=ag hr;obtain ⟨rz,hz,rfl⟩:=ff h0;clear h0
  refine (kH (R1:=nw E (fun k=>k=w.heap.size+5∨k=w.heap.size) (fun lk w'=>aj w' (w.heap.size+5) 9 #[.string (mG lk)]∧aj w' w.heap.size 49 #[(.pointer (some ⟨E.g,0,none⟩))]) _ (w.heap.size+4) w.heap.size 1 1 (some ⟨w.heap.size+3,0,none⟩) [.int .i64 t.k,.int .i64 t.fr,.int .i64 t.to,.string t.tx,.slice A0 t.ks.length c0] rz) ((((((HP.o.alloc _).alloc _).alloc _).alloc _).alloc _).alloc _) rfl (zT _) (Cs (lo:=lo+1) (base:=w.heap.size) (n:=1) (c:=1) (B:=some ⟨w.heap.size+3,0,none⟩) (xs:=[.int .i64 t.k,.int .i64 t.fr,.int .i64 t.to,.string t.tx,.slice A0 t.ks.length c0]) HE.o (Cr HE.o HF.o HO.o (by omega) (by omega) (by omega) (by omega) (by omega)) (((((((HP.o.alloc _).alloc _).alloc _).alloc _).alloc _).alloc _).set2 false) ⟨((aj.new' (by simp)).far1 (r:=E.g) (o:=2) (by omega) _),(((((((aj.new' (by simp)).alloc _).alloc _).alloc _).alloc _).alloc _).far1 (r:=E.g) (o:=2) (by omega) _)⟩ (by omega) (fun k hk=>by have e:=hk;(try dsimp only at e);first | omega | (simp;done) | (simp;omega)) (((aj.new' (by simp)).alloc _).far1 (r:=E.g) (o:=2) (by omega) _) (fO (n:=1) ((((aj.new' (by simp)).alloc _).alloc _).far1 (r:=E.g) (o:=2) (by omega) _) (by omega) rfl (by unfold maxLen;omega)) (((((((aj.new' (by simp)).alloc _).alloc _).alloc _).alloc _).alloc _).far1 (r:=E.g) (o:=2) (by omega) _) (by omega) (by omega) (by intro e;have e2:=e;(try dsimp only at e2);omega) (fun k hk=>by simp [Value.ownBlock] at hk;subst hk;exact ⟨by omega,by omega,(by intro e;have e2:=e;(try dsimp only at e2);omega)⟩) (by omega) (by first | omega | (simp;done) | (simp;omega)) hz) ?_);intro e w1 hA;rcases rz with p | ⟨⟨l,u⟩,i2,b2⟩
  ·
   obtain ⟨hb,rfl⟩:=hA;refine .inl ⟨_,rfl,?_⟩;(try dsimp only at hr);subst hr;go_wp2_with fail;exact ⟨rfl,(((((((cT.o.alloc _).alloc _).alloc _).alloc _).alloc _).alloc _).set_ (p:=⟨E.g,2,none⟩) (.inr (.inl rfl)) _).trans hb (fun k hk h=>by rcases h with h | h | h | h;exact .inl h;(rcases h with h2 | h2 <;> (exfalso;omega));(exfalso;omega);(simp [Value.ownBlock] at h;exfalso;omega)),rfl⟩
  obtain ⟨hb,rfl,cq,hI,eN,B2,c2,wV,kB,lI,oE,rC⟩:=hA;(try dsimp only at hr cq hI eN kB lI oE rC);obtain ⟨sC,-,wO⟩:=(eZ HE.o.wt (lo+1) (fun u j hj h=>oN HE.o.wt HF.o hj h u) _ _ _ _ (by omega) HP.o.ilt (by omega)).2 _ _ hz;dsimp only at sC wO;subst b2;refine .inr ⟨rfl,i2,false,cq,?_⟩;have jG:ay (fun k=>k=E.g∨k=w.heap.size+5∨k=w.heap.size∨k=w.heap.size+4∨k=w.heap.size+3) _ _:=hb.mono (fun k _ h=>by rcases h with h | h | h | h;exact .inl h;(rcases h with h | h;exact .inr (.inl h);exact .inr (.inr (.inl h)));exact .inr (.inr (.inr (.inl h)));exact .inr (.inr (.inr (.inr (by simp [Value.ownBlock] at h;exact h.symm)))));have et:=jG.size;(try simp at et);have hw:ay (Xs E [w.heap.size+5,w.heap.size,w.heap.size+4,w.heap.size+3]) w w1:=(((((((zb.alloc _).alloc _).alloc _).alloc _).alloc _).alloc _).set_ (p:=⟨E.g,2,none⟩) (.inr (.inl rfl)) _).trans jG (fun k _ h=>by rcases h with h | h | h | h | h <;> simp [Xs,h]);have Kt:Hd (aj w1 (w.heap.size+1) 25 #[.int .i64 t.k,.int .i64 t.fr,.int .i64 t.to,.string t.tx,.slice A0 t.ks.length c0]):=zh (((((((aj.new' (by simp)).alloc _).alloc _).alloc _).alloc _).far1 (r:=E.g) (o:=2) (by omega) _).but jG (fun e=>by rcases e with e | e | e | e | e <;> omega));have cM:Hd (aj w1 (w.heap.size+2) 25 #[.int .i64 0,.int .i64 0,.int .i64 0,.string ⟨#[]⟩,.slice none 0 0]):=zh ((((((aj.new' (by simp)).alloc _).alloc _).alloc _).far1 (r:=E.g) (o:=2) (by omega) _).but jG (fun e=>by rcases e with e | e | e | e | e <;> omega));have SX:Hd (bG w1 (SV S w.heap.size w.heap.size) t [.int .i64 t.k,.int .i64 t.fr,.int .i64 t.to,.string t.tx,.slice A0 t.ks.length c0]):=zh (Mz.o.keep (cP hw (fun k hk=>by rcases hk with h1 | ⟨h1,h2⟩;(have h3:=HS.o _ h1;omega);omega) (fun k h1 e=>by rcases h1 with h1 | ⟨h1,h2⟩;(have h3:=HS.o _ h1;rcases e with e | e;omega;(try simp at e) <;> omega);(rcases e with e | e;omega;(try simp at e) <;> omega))) fun _ h=>h);have bp:=zh cq;have a7:=YtfmgdmeopakdaaaGreatDoor.b2 cT hw (by simp <;> omega);clear Mz hw;rw [Nat.add_comm 1 l.length] at kB lI rC;have KD:Hd (aj w1 (w.heap.size+4) 23 #[.slice B2 (l.length+1) c2]):=zh kB
  have Tm:Hd (aQ w1 (SV S (w.heap.size+3) w1.heap.size) (.slice B2 (l.length+1) c2) (t :: l)):=zh (q_ (t:=t) lI rfl rC (SX.o.keep zr fun k hk=>by rcases hk with h1 | ⟨h1,h2⟩;exact .inl h1;exact .inr ⟨by omega,by omega⟩) oE (by omega) (by first | omega | (simp;done) | (simp;omega)) (by omega));clear SX hb jG cq kB lI rC oE hz;have jH:Hd (aj w1 (w.heap.size+5) 9 #[.string (mG u)]):=zh (hI.1);have d5:Hd (aj w1 w.heap.size 49 #[(.pointer (some ⟨E.g,0,none⟩))]):=zh (hI.2);clear hI;obtain ⟨bg,bi,bh⟩:=d5.o.c1;go_wp2_with fail;by_cases hq:oneOf (E.tok i2) [⟨#[41]⟩]=true
  case neg=>
   replace hq:=Bool.eq_false_iff.2 hq;replace hr:=aZ hr hq;subst hr;refine (ci (x:=⟨#[41]⟩) HE.o (bp.o.set2 b) hq).mono ?_;rintro e wz ⟨rfl,hb⟩;go_wp2_with fail;exact ⟨rfl,(a7.o.set_ (p:=⟨E.g,2,none⟩) (.inr (.inl rfl)) _).then_ hb,rfl⟩
  case pos=>
   replace hr:=aY hr hq;refine (bI (x:=⟨#[41]⟩) HE.o (bp.o.set2 b) hq).mono ?_;rintro e w2 ⟨rfl,hp,hb⟩;simp only [cu];have hx:=xm hb;have ep:=hx.size;(try simp at ep);have hw:ay (Xs E []) w1 w2:=(zb.set_ (p:=⟨E.g,2,none⟩) (.inr (.inl rfl)) _).trans hx xg;obtain ⟨Hq,bO,H1,iq,dU⟩:=uD Kt cM KD jH d5 hw;have pz:Hd (aQ w2 (SV S (w.heap.size+3) w1.heap.size) (.slice B2 (l.length+1) c2) (t :: l)):=zh (Tm.o.keep (cP hw (fun k hk=>by rcases hk with h1 | ⟨h1,h2⟩;(have h3:=HS.o _ h1;omega);omega) (fun k h1 e=>by rcases h1 with h1 | ⟨h1,h2⟩;(have h3:=HS.o _ h1;rcases e with e | e;omega;(try simp at e) <;> omega);(rcases e with e | e;omega;(try simp at e) <;> omega))) fun _ h=>h);have bn:=zh hp;have aE:=b0 a7 hw;clear bg bi bh Kt cM KD jH d5 Tm bp a7 hw hb hx hp hq;obtain ⟨bg,bi,bh⟩:=dU.o.c1;obtain ⟨Jh,Jg,Jf⟩:=H1.o.c1;obtain ⟨gL,gK,gJ⟩:=iq.o.c1;obtain ⟨V6,V5,V4,V0,VZ,VY,VX⟩:=Hq.o.cells5;go_wp2_with fail;refine mr (E:=E) (ak HE.o bn.o (by omega)) ?_;intro w3 hb hx fK hw;obtain ⟨PW,cC,Fa,oV,eQ⟩:=uD Hq bO H1 iq dU hw;have uj:Hd (aQ w3 (SV S (w.heap.size+3) w1.heap.size) (.slice B2 (l.length+1) c2) (t :: l)):=zh (pz.o.keep (cP hw (fun k hk=>by rcases hk with h1 | ⟨h1,h2⟩;(have h3:=HS.o _ h1;omega);omega) (fun k h1 e=>by rcases h1 with h1 | ⟨h1,h2⟩;(have h3:=HS.o _ h1;rcases e with e | e;omega;(try simp at e) <;> omega);(rcases e with e | e;omega;(try simp at e) <;> omega))) fun _ h=>h);have bD:=fN bn hb;have be:=b0 aE hw;clear bg bi bh Jh Jg Jf gL gK gJ V6 V5 V4 V0 VZ VY VX Hq bO H1 iq dU pz bn aE hw hb hx
   obtain ⟨di,dh,de,dd,dc,db,da⟩:=cC.o.cells5;go_wp2_with fail;obtain rfl:=a6 hr;exact am (r:=w.heap.size+2) results120 (by rfl) cC.o.p5 (by rfl) ⟨be.o.s5,bD.o.f6,_,rfl,_,_,rfl,(uj.o.keep ((aI.refl (SV S (w.heap.size+3) w1.heap.size) w3).set5 (by intro hk;rcases hk with h1 | ⟨h1,h2⟩;(have h3:=HS.o _ h1;omega);omega) _ _ _ _ _) fun k hk=>by rcases hk with h1 | ⟨h1,h2⟩;exact .inl h1;exact .inr ⟨by omega,by first | omega | (simp;omega)⟩)⟩
end
set_option maxRecDepth 100000
set_option maxHeartbeats 1000000
section
variable {E:Env} {G:Gr} {lo:Nat} {w:World} {i:Nat} {b:Bool}
theorem vp (hE:eH E) (hO:OkG E G) {xb pb:Nat} (hxg:xb≠E.g) (rv:pb≠E.g) (hxa:xb≠E.a) (uc:pb≠E.a) (hxp:xb≠pb) {r:Except Int (No×Ps)} (hr:G.expr (i,b)=some r) (h:PS E w i b)
    (hx:aj w xb 25 #[.int .i64 0,.int .i64 0,.int .i64 0,.string ⟨#[]⟩,.slice none 0 0]) (hp:aj w pb 49 #[(.pointer (some ⟨E.g,0,none⟩))]) :
    Calls prog 122 #[.pointer (some ⟨pb,0,none⟩),.pointer (some ⟨xb,0,none⟩)] w (cV E (fun k=>k=xb) w (fun w' x v=>v = .tuple #[]∧∃ A c,aj w' xb 25 #[.int .i64 x.k,.int .i64 x.fr,.int .i64 x.to,.string x.tx,.slice A x.ks.length c]∧aQ w' (kE w w') (.slice A x.ks.length c) x.ks) r):=by
  have fU:=h.glt;have ic:=h.lt;have iS:=hE.len;have eY:=h.ilt;have Wt:=hx.lt;have AD:=hp.lt;have HP:=zh h;have HE:=zh hE;have HO:=zh hO;have TG:=zh hx;have lx:=zh hp;have cT:Hd (ay (fun k=>k=E.g∨(k=xb)) w w):=zh zb;clear h hE hO hx hp;go_enter func122,ntmps122;obtain ⟨bg,bi,bh⟩:=lx.o.c1;go_wp2_with fail;refine (HO.o.expr hr HP.o).mono ?_;rintro e w1 hp;rcases r with p | ⟨x,i2,b2⟩
  ·
   obtain ⟨hb,rfl⟩:=hp;go_wp2_with fail;exact ⟨rfl,cT.o.trans hb mg,rfl⟩
  obtain ⟨hb,hp,v,rfl,A2,c2,rfl,ae⟩:=hp;(try dsimp only at hp ae);obtain ⟨et,hw⟩:=ez hb;obtain ⟨N2,d5⟩:=dJ TG lx hw;have bp:=zh hp;have a7:=b0 cT hw;clear bg bi bh TG lx hw;have uK:Hd (aQ w1 (Iv w.heap.size w1.heap.size) (.slice A2 x.ks.length c2) x.ks):=zh (ae.keep zr fun k hk=>⟨by have h1:=hk.1;(try simp at h1);omega,hk.2⟩);obtain ⟨qL,qK,qJ,qI,pH,qg,qe⟩:=N2.o.cells5;obtain ⟨bg,bi,bh⟩:=d5.o.c1;go_wp2_with fail;exact ⟨rfl,.tuple #[],by first | rfl | (simp [results,go_sem];done) | (simp [results,Tryz.f122,go_sem];done),(a7.o.set5 (.inr (.inr rfl)) _ _ _ _ _),bp.o.f6,_,rfl,rfl,A2,c2,N2.o.p5,(zw uK)⟩
end
end Go.Proofs.YtfmgdmeopakdaaaGreatDoor
