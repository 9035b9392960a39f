/- Parts of one proof. -/
import Derived.Test.YtfmgdmeopakdaaaGreatDoorMB3
import Derived.Deep.RegionHeld
import Derived.StillTailTactics
import Derived.Laws.CopyOwn
set_option linter.unusedVariables false
set_option linter.unusedSimpArgs false
namespace Go.Proofs.YtfmgdmeopakdaaaGreatDoor
open Go Go.RowKit Tryz
theorem drew_any {P:Program} {ops:Array Oper} {Q:Exit→Act→World→Prop} {l:List Oper} {a:Act} {w:World} (h:∀ W,Below w.heap.size w W→wpList P ops Q l a W):wpList P ops Q l a { w with drawn:=w.drawn+1 }:=
  h _ (Below.refl _ _).drew
theorem kq {P:Program} {c:Code} {Q:Exit→Act→World→Prop} {a:Act} {w:World} (h:∀ W,Below w.heap.size w W→c.wp P Q a W):c.wp P Q a w:=h w (Below.refl _ _)
theorem EU {B:Nat} {a c:World} {r:Nat} (h:Below B a c) (hr:B≤r) (u0 u1 u2 u3 u4:Value):Below B a (((((c.setCell ⟨r,0,none⟩ u0).setCell ⟨r,1,none⟩ u1).setCell ⟨r,2,none⟩ u2).setCell ⟨r,3,none⟩ u3).setCell ⟨r,4,none⟩ u4):=
  ((((h.setCell (p:=⟨r,0,none⟩) hr u0).setCell (p:=⟨r,1,none⟩) hr u1).setCell (p:=⟨r,2,none⟩) hr u2).setCell (p:=⟨r,3,none⟩) hr u3).setCell (p:=⟨r,4,none⟩) hr u4
theorem ew {P:Program} {md:Region.Mode} {ops:Array Oper} {Q:Exit→Act→World→Prop} {S:World→Prop} {fuel:Nat} {listed:Array Bool} {a:Act} {w:World} (h:∀ W,Below w.heap.size w W→S W→wpAnyH P md ops Q S fuel listed a W) (hS:S w.drew):wpAnyH P md ops Q S fuel listed a w.drew:=
  h _ (Below.refl _ _).drew hS
section
variable {E:Env} {G:Gr} {lo:Nat} {w:World} {i:Nat} {b:Bool} {S:Nat→Prop} {v:Value} {l:List No}
theorem aQ.head_ (h:aQ w S v l) (hl:l≠[]):∃ g o cap,v = .slice (some ⟨g,o,none⟩) l.length cap∧S g:=by
  obtain ⟨g,o,cap,A,c,e,hS,-⟩:=h.cells_ (List.length_pos_iff.2 hl);exact ⟨g,o,cap,e,hS⟩
theorem aQ.hd {g o cap:Nat} (h:aQ w S (.slice (some ⟨g,o,none⟩) l.length cap) l) (hl:l≠[]):∃ A c,S g∧w.cell? ⟨g,o,none⟩=some (.int .i64 (l.headD bo).k)∧w.cell? ⟨g,o+1,none⟩=some (.int .i64 (l.headD bo).fr)∧w.cell? ⟨g,o+2,none⟩=some (.int .i64 (l.headD bo).to)∧w.cell? ⟨g,o+3,none⟩=some (.string (l.headD bo).tx)∧
    w.cell? ⟨g,o+4,none⟩=some (.slice A (l.headD bo).ks.length c)∧bG w S (l.headD bo) [.int .i64 (l.headD bo).k,.int .i64 (l.headD bo).fr,.int .i64 (l.headD bo).to,.string (l.headD bo).tx,.slice A (l.headD bo).ks.length c]:=by
  obtain ⟨g2,o2,XA,A,c,e,hS,h0,h1,h2,h3,h4,hn⟩:=h.cells_ (List.length_pos_iff.2 hl);cases e
  have e0:l[0]'(List.length_pos_iff.2 hl)=l.headD bo:=by
    cases l with
    | nil=>exact absurd rfl hl
    | cons x t=>rfl
  rw [e0] at h0 h1 h2 h3 h4 hn;simp only [Nat.zero_mul,Nat.add_zero] at h0 h1 h2 h3 h4;exact ⟨A,c,hS,h0,h1,h2,h3,h4,hn⟩
theorem aQ.hd2 {g o cap:Nat} {n:No} (h:aQ w S (.slice (some ⟨g,o,none⟩) l.length cap) l) (hl:l≠[]) (hh:l.headD bo=n):∃ A c,S g∧w.cell? ⟨g,o,none⟩=some (.int .i64 n.k)∧w.cell? ⟨g,o+1,none⟩=some (.int .i64 n.fr)∧w.cell? ⟨g,o+2,none⟩=some (.int .i64 n.to)∧w.cell? ⟨g,o+3,none⟩=some (.string n.tx)∧
    w.cell? ⟨g,o+4,none⟩=some (.slice A n.ks.length c)∧bG w S n [.int .i64 n.k,.int .i64 n.fr,.int .i64 n.to,.string n.tx,.slice A n.ks.length c]:=hh ▸ h.hd hl
structure HC (w:World) (S:Nat→Prop) (g o:Nat) (n:No) (A:Option Addr) (c:Nat):Prop where
  mem:S g
  c0:w.cell? ⟨g,o,none⟩=some (.int .i64 n.k)
  c1:w.cell? ⟨g,o+1,none⟩=some (.int .i64 n.fr)
  c2:w.cell? ⟨g,o+2,none⟩=some (.int .i64 n.to)
  c3:w.cell? ⟨g,o+3,none⟩=some (.string n.tx)
  c4:w.cell? ⟨g,o+4,none⟩=some (.slice A n.ks.length c)
theorem HC.keep {w':World} {S':Nat→Prop} {g o c:Nat} {n:No} {A:Option Addr} (h:HC w S g o n A c) (hs:aI S w w') (h1:∀ b,S b→S' b):HC w' S' g o n A c:=
  ⟨h1 _ h.mem,(hs.cell h.mem _).trans h.c0,(hs.cell h.mem _).trans h.c1,(hs.cell h.mem _).trans h.c2,(hs.cell h.mem _).trans h.c3,(hs.cell h.mem _).trans h.c4⟩
theorem aQ.hd3 {g o cap:Nat} {n:No} (h:aQ w S (.slice (some ⟨g,o,none⟩) l.length cap) l) (hl:l≠[]) (hh:l.headD bo=n):∃ A c,HC w S g o n A c∧bG w S n [.int .i64 n.k,.int .i64 n.fr,.int .i64 n.to,.string n.tx,.slice A n.ks.length c]:=by
  obtain ⟨A,c,hS,h0,h1,h2,h3,h4,hn⟩:=h.hd2 hl hh;exact ⟨A,c,⟨hS,h0,h1,h2,h3,h4⟩,hn⟩
theorem pj {l:List No} {s:Ps} (h:gI E.ts G (i,b)=some (.ok (l,s))):l≠[]:=by
  unfold gI at h;obtain ⟨rx,h1,h2⟩:=ag h;cases rx with
  | error p=>cases h2
  | ok a=>
    obtain ⟨x,i2,b2⟩:=a;exact B0 _ _ i2 b2 (by simp) h2
theorem exprs_fin2 (hw:WT E.ts) (hG:GF E.ts G lo) (hl:lo≤i) (hi:i<E.ts.length):qF E.ts (i+1) (gI E.ts G) i b:=fX hw hG hl hi
/-! ### a list that stands in a node's kids and grows -/
structure LQ (E:Env) (w wr:World) (i:Nat) (b:Bool) (z:Nat) (out:List No) (v:Value) (xs:List Value) (fr to_:Int):Prop where
  ps:PS E wr i b
  own:wr.ownsRow w.heap.size 25 5 v out.length xs
  nos:aC wr (fun k=>w.heap.size≤k∧k<wr.heap.size∧v.ownBlock≠some k∧k≠z) out xs
  but:ay (fun k=>k=E.g) w wr
  len:out.length≤i
  blk:aj wr z 25 #[.int .i64 65,.int .i64 fr,.int .i64 to_,.string ⟨#[]⟩,v]
  ne:v.ownBlock≠some z
  zl:w.heap.size≤z
theorem LQ.row {wr:World} {z:Nat} {out:List No} {xs:List Value} {fr to_:Int} (h:LQ E w wr i b z out v xs fr to_):aQ wr (fun k=>kE w wr k∧k≠z) v out:=
  ⟨xs,Row.of_own h.own fun k hk=>⟨h.own.lt k hk,fun e=>h.ne (e ▸ hk)⟩,h.nos.keep zr fun k hk=>⟨⟨hk.1,hk.2.1⟩,hk.2.2.2⟩⟩
theorem LQ.go {wr w1:World} {z j:Nat} {out:List No} {xs:List Value} {fr to_:Int} (h:LQ E w wr i b z out v xs fr to_) (fU:E.g<w.heap.size) (hb:ay (fun k=>k=E.g) wr w1) (cq:PS E w1 j b) (hj:i≤j):LQ E w w1 j b z out v xs fr to_:=by
  have hz:=h.but.size;have et:=hb.size;have hl:=h.own.lt;have:=h.zl;have:=h.len;have Wn:=h.blk.lt;refine ⟨cq,bk h.own fun k hk=>hb.block k (hl k hk).2 (by have:=(hl k hk).1;omega),h.nos.keep (fun k hk=>hb.block k hk.2.1 (by have:=hk.1;omega)) fun k hk=>⟨hk.1,by omega,hk.2.2⟩,h.but.trans hb (fun _ _ h=>h),by omega,h.blk.but hb (by omega),h.ne,h.zl⟩
theorem LQ.drew {wr:World} {z:Nat} {out:List No} {xs:List Value} {fr to_:Int} (h:LQ E w wr i b z out v xs fr to_):LQ E w wr.drew i b z out v xs fr to_:=⟨h.ps.drew,h.own,aC.keep (w:=wr) (w':=wr.drew) (fun _ _=>rfl) (fun _ h=>h) h.nos,h.but.drew,h.len,h.blk,h.ne,h.zl⟩
theorem FE {t:Tk} {l:List ByteArray} (h:oneOf t l=true):t.tx ∈ l:=by
  simp only [oneOf,Bool.and_eq_true,iJ,List.any_eq_true,decide_eq_true_eq] at h;obtain ⟨_,x,hx,e⟩:=h;exact e ▸ hx
theorem LQ.step {w1 w2 w3:World} {z i2:Nat} {out:List No} {v':Value} {xs cs:List Value} {x:No} {o:Obj} {fr to_:Int} (h:LQ E w w1 i b z out v xs fr to_) (fU:E.g<w.heap.size) (ic:E.a<w.heap.size)
    (cK:ay (fun k=>k=E.g) w1 w2) (cq:PS E w2 i2 b) (hx:bG w2 (kE w1 w2) x cs) (hi:out.length+1≤i2)
    (aD:w3.ownsRow w.heap.size 25 5 v' (out.length+1) (xs ++ cs)) (hg:(w2.alloc o).grownBy w3 v.ownBlock) (cX:v'.ownBlock=v.ownBlock∨v'.ownBlock=some (w2.alloc o).heap.size) :
    LQ E w (w3.setCell ⟨z,4,none⟩ v') i2 b z (out ++ [x]) v' (xs ++ cs) fr to_:=by
  have et:=h.but.size;have ep:=cK.size;have fK:=hg.size;simp at fK;have hl:=h.own.lt;have Wn:=h.blk.lt;have GK:=h.zl
  have gQ:∀ k,k<w2.heap.size→v.ownBlock≠some k→v'.ownBlock≠some k:=by
    intro k hk h;rcases cX with e | e <;> rw [e]
    · exact h
    · simp;omega
  have hold:∀ k,k<w2.heap.size→v.ownBlock≠some k→w3.heap[k]? = w2.heap[k]?:=fun k hk hn=>
    (hg.block k (by simp;omega) (fun e=>hn e.symm)).trans (Below.heap_alloc w2 o k hk)
  (have Nl:∀ k,k<w.heap.size→v.ownBlock≠some k:=fun k hk e=>by have:=(hl k e).1;omega);have hs:∀ k,k≠z→(w3.setCell ⟨z,4,none⟩ v').heap[k]? = w3.heap[k]?:=fun k hk=>Below.heap_setCell w3 ⟨z,4,none⟩ _ k hk;have eF:aj w3 z 25 #[.int .i64 65,.int .i64 fr,.int .i64 to_,.string ⟨#[]⟩,v]:=(hold z (by omega) h.ne).trans ((cK.block z Wn (by omega)).trans h.blk);refine ⟨(cq.same (hold _ (by omega) (Nl _ fU)) (hold _ (by omega) (Nl _ ic)) (by omega)).far1 (by omega) (by omega) _,by simpa using bk aD fun k hk=>hs k (fun e=>gQ z (by omega) h.ne (e ▸ hk)),?_,?_,by simp;omega,by simpa using eF.set_ 4 v',gQ z (by omega) h.ne,GK⟩
  · refine aC.append (h.nos.keep (fun k hk=>?_) (fun k hk=>?_)) (aC.one (hx.keep (fun k hk=>?_) (fun k hk=>?_)))
    · exact (hs k hk.2.2.2).trans ((hold k (by omega) hk.2.2.1).trans (cK.block k hk.2.1 (by have:=hk.1;omega)))
    · exact ⟨hk.1,by simp;omega,gQ k (by omega) hk.2.2.1,hk.2.2.2⟩
    · have h1:=hk.1
      exact (hs k (by omega)).trans (hold k hk.2 (fun e=>by have h2:=(hl k e).2;omega))
    · have h1:=hk.1
      have h2:=hk.2;exact ⟨by omega,by simp;omega,gQ k hk.2 (fun e=>by have:=(hl k e).2;omega),by omega⟩
  · refine ⟨hg.os.trans (cK.os.trans h.but.os),hg.tape.trans (cK.tape.trans h.but.tape),hg.output.trans (cK.output.trans h.but.output),by simp;omega,fun k hk hn=>?_⟩
    exact (hs k (by omega)).trans ((hold k (by omega) (Nl k hk)).trans ((cK.block k (by omega) hn).trans (h.but.block k hk hn)))
end
set_option maxRecDepth 100000
set_option maxHeartbeats 8000000
section
variable {E:Env} {G:Gr} {lo:Nat} {w:World} {i:Nat} {b:Bool}
theorem oz {w':World} {n:No} {v:Value} (h:∃ A c,v = .agg #[.int .i64 n.k,.int .i64 n.fr,.int .i64 n.to,.string n.tx,.slice A n.ks.length c]∧aQ w' (kE w w') (.slice A n.ks.length c) n.ks):lp w w' n v:=h
def SoG {σ:Type} (I:World→Prop) (VS:World→σ→Prop) (w w':World) (x:No ⊕ σ) (v:Value):Prop:=match x with
  | .inl n=>lp w w' n v∧I w'
  | .inr u=>v = .agg #[.int .i64 7,.int .i64 0,.int .i64 0,.string ⟨#[]⟩,.slice none 0 0]∧VS w' u
theorem Lc {w0 w':World} {r0:Nat} (h:ay (fun k=>gX E k) w0 w'):ay (fun k=>k=E.g∨k=r0) w0 w':=h.mono fun _ _ h=>h.elim .inl fun e=>e.elim
theorem nD (hE:eH E) (hF:GF E.ts G lo) (hO:OkG E G) (dA:lo≤i) {ζ:Prop} {gb fn:Nat} {cap:Array Value} {σ:Type} {Wb:List No→PM (Option σ)} {I:World→Prop} {VS:World→σ→Prop}
    (BO:∀ w fv v,(callFunc fn (#[fv,v] ++ cap)).run prog w = .ok (.enter fn (#[fv,v] ++ cap)) w)
    (sF:gb<w.heap.size) (hI:∀ W,ay (fun k=>k=E.g∨k=w.heap.size) w W→I W)
    (hc:∀ (W:World) (S:Nat→Prop) (l:List No) (fv v:Value) (i:Nat) (b:Bool) (r:Except Int (Option σ×Ps)),lo≤i→w.heap.size<W.heap.size→(∀ k,S k→k<W.heap.size∧k≠E.g∧w.heap.size<k)→aQ W S v l→Wb l (i,b)=some r→PS E W i b→I W→
      Calls prog fn (#[fv,v] ++ cap) W (cV E (fun k=>ζ∧k=gb) W (fun w' x v=>v = .tuple #[.agg #[.int .i64 7,.int .i64 0,.int .i64 0,.string ⟨#[]⟩,.slice none 0 0],.bool x.isSome]∧(match x with | none=>∀ W',ay (fun k=>k=E.g∨k=w.heap.size) w' W'→I W' | some u=>∀ W',ay (fun k=>k=E.g∨k=w.heap.size) w' W'→VS W' u)) r))
    (YH:∀ (l:List No) (j:Nat) (b:Bool),lo≤j→j<E.ts.length→qF E.ts j (Wb l) j b)
    {r:Except Int ((No ⊕ σ)×Ps)} (hr:dx E.ts G Wb (i,b)=some r) (h:PS E w i b) :
    Calls prog 180 #[(.pointer (some ⟨E.g,0,none⟩)),.func (.func fn) #[] cap] w (cV E (fun k=>ζ∧k=gb) w (SoG I VS w) r):=by
  have fU:=h.glt;have ic:=h.lt;have iS:=hE.len;have eY:=h.ilt;have HP:=zh h;have HE:=zh hE;have cT:Hd (ay (fun k=>k=E.g∨(ζ∧k=gb)) w w):=zh zb;have CZ:Hd (ay (fun k=>gX E k) w w):=zh zb;have HI:=zh hI;have Z9:=zh hc;have ZV:=zh YH;have HENT:=zh BO;have HF:=zh hF;have HO:=zh hO;clear hF hO;clear h hE hI hc YH;have iM:=aO;have iT:=aU;have jf:=aT;have iL:=aS;go_enter func180,ntmps180;unfold dx at hr;replace hr:=eu hr;go_wp2_with fail;refine eO (E:=E) (cY HE.o (HP.o.alloc _)) ?_;intro w1 hb hx et hw;have cM:=cW w.heap.size hx;have bp:=dX HP hb;have a7:=b0 cT hw;have Ux:=b0 CZ hw;clear CZ hw hb hx;go_wp2_with fail;obtain ⟨rx,h1,hr⟩:=ag hr;refine (kf HE.o HF.o HO.o (by omega) h1 bp.o).mono ?_;rintro e w2 hp;rcases rx with p | ⟨l2,i2,b2⟩
  ·
   obtain ⟨hb,rfl⟩:=hp;cases hr;(try go_wp2_with fail);exact ⟨rfl,a7.o.trans hb mg,rfl⟩
  (try dsimp only at hr);obtain ⟨sC,rfl⟩:=zf ((fX HE.o.wt HF.o (by omega) eY).2 _ _ h1);have gQ:=pj h1;obtain ⟨hb,hp,v,rfl,A2,c2,rfl,ae⟩:=hp;(try dsimp only at hp ae);obtain ⟨ep,hw⟩:=ez hb;have bO:=k0 cM hw;have bn:=zh hp;have aE:=b0 a7 hw;have Uv:=b0 Ux hw;clear cM Ux bp a7 hw;have pz:=zm (lo:=w1.heap.size) ae;clear ae hb hp h1;obtain ⟨lg,jW,Je,WM,-⟩:=pz.o.head_ gQ;cases WM;replace hr:=bW hr;have hlim:=pz.o.lim;have C7:0<l2.length:=List.length_pos_iff.2 gQ;obtain ⟨ea,sD⟩:∃ n,l2.headD bo=n:=⟨_,rfl⟩;rw [sD] at hr;have H8:=zh sD;clear sD;go_wp2_with fail;refine (bT HE.o bn.o).mono ?_;rintro e w3 ⟨rfl,hb⟩;simp only [cu];obtain ⟨hx,fK,hw⟩:=nX (E:=E) hb;have cC:=k0 bO hw;have uj:=r0 pz hw;have bD:=fN bn hb;have be:=b0 aE hw;have Uu:=b0 Uv hw;clear bO pz Uv bn aE hw hb hx
  go_upto_region 5 with fail
  refine kq ?_;rintro w4 hb;obtain ⟨hx,iV,hw⟩:=Dc (E:=E) hb;have cS:=k0 cC hw;have um:=cW w3.heap.size hx;have xD:=r0 uj hw;have bM:=dX bD hb;have bu:=b0 be hw;have Ut:=b0 Uu hw;clear cC uj Uu bD be hw hb hx
  go_cut [7,23] from 18 to 29 (fun s7 s W=>s7 = .bool (decide (l2.length=1))∧∃ q:Bool,s = .bool q∧Hd (q=true↔l2.length=1∧oneOf (E.tok i2) [⟨#[60,45]⟩]=true)∧Hd (ay (fun k=>gX E k) w4 W)∧Hd (PS E W (if q=true then i2+1 else i2) b))
  case first=>
   have Yh:Hd (ay (fun k=>gX E k) w4 w4):=zh zb;(have OV:l2.length=1∨¬ l2.length=1:=by omega);rcases OV with kx | kx
   ·
    (have kB:((l2.length:Int) == 1)=true:=by rw [kx];rfl);have D9:decide (l2.length=1)=true:=decide_eq_true kx;have iO:=zh kx;clear kx;go_wp2_with fail;by_cases hq:oneOf (E.tok i2) [⟨#[60,45]⟩]=true
    ·
     refine (qG [⟨#[60,45]⟩] HE bM hq).mono ?_;rintro e wz ⟨rfl,hp,hb⟩;go_wp2_with fail
     go_meet
     exact ⟨by rw [decide_eq_true iO.o],true,rfl,zh ⟨fun _=>⟨iO.o,hq⟩,fun _=>rfl⟩,zh ((Yh.o.alloc _).trans (xm hb) mg),zh hp⟩
    ·
     have WG:=Bool.eq_false_iff.2 hq;refine (o3 (l:=[⟨#[60,45]⟩]) HE.o (bM.o.alloc _) (aW (n:=w4.heap.size) [⟨#[60,45]⟩] (by simp) (by simp)) (ba (by simp)) WG).mono ?_;rintro e wz ⟨rfl,hb⟩;go_wp2_with fail
     go_meet
     exact ⟨by rw [decide_eq_true iO.o],false,rfl,zh ⟨fun e=>(by cases e),fun e=>absurd e.2 hq⟩,zh ((Yh.o.alloc _).trans (rn hb) mg),zh ((bM.o.alloc _).below hb)⟩
   ·
    (have kB:((l2.length:Int) == 1)=false:=by simpa using (by omega:¬ (l2.length:Int)=1));have D9:decide (l2.length=1)=false:=decide_eq_false kx;go_wp2_with fail
    go_meet
    exact ⟨by rw [decide_eq_false kx],false,rfl,zh ⟨fun e=>(by cases e),fun e=>absurd e.1 kx⟩,Yh,bM⟩
  case rest=>
   obtain ⟨rfl,q,rfl,UP,hb,hp⟩:=hcut;replace hb:=hb.o;replace hp:=hp.o;obtain ⟨w5,hwc⟩:∃ w5,w5=wc:=⟨_,rfl⟩;subst hwc;obtain ⟨jY,hw⟩:=ez hb;obtain ⟨cN,jP⟩:=dJ cS um hw;have wv:=r0 xD hw;have bH:=zh hp;have a8:=b0 bu hw;have H_:=b0 Ut hw;clear cS um xD Ut bM bu hw hb hp;cases q
   case false=>
    have gQ:¬ (l2.length=1∧oneOf (E.tok i2) [⟨#[60,45]⟩]=true):=fun e=>absurd (UP.o.2 e) (by decide);rw [if_neg gQ] at hr;clear UP gQ;replace bH:Hd (PS E w5 i2 b):=zh (by have h9:=bH.o;simpa using h9);go_wp2_with fail;by_cases hq:oneOf (E.tok i2) [⟨#[61]⟩]=true
    ·
     rw [if_pos hq] at hr;replace hr:=cy hr;refine qd (qG [⟨#[61]⟩] HE bH hq) ?_;intro w6 hp hb hx iK hw;obtain ⟨cJ,gR⟩:=dJ cN jP hw;have wS:=r0 wv hw;have bC:=zh hp;have aR:=b0 a8 hw;have sY:=b0 H_ hw;clear cN jP wv H_ bH a8 hw hb hx hp;have hm:=FE hq;have fH:Hd ((E.tok i2).tx=⟨#[61]⟩):=zh (by simpa using hm);clear hm hq;go_wp2_with fail;have QW:Hd (ay (fun k=>gX E k) w6 w6):=zh zb;have Kbr:=cJ;have Kbt:=gR;have Nbl:=wS;have HBb:=aR;have Yi:=sY;obtain ⟨rx,h1,hr⟩:=ag hr;refine (bZ HE.o HF.o HO.o (by omega) h1 bC.o).mono ?_;rintro e w7 hp;rcases rx with p | ⟨x7,i7,b7⟩
     ·
      obtain ⟨hb,rfl⟩:=hp;cases hr;(try go_wp2_with fail);exact ⟨rfl,aR.o.trans hb mg,rfl⟩
     (try dsimp only at hr);obtain ⟨vB,rfl⟩:=zf ((expr_fin HE.o.wt HF.o (by omega) bC.o.ilt).2 _ _ h1);obtain ⟨hb,hp,v,rfl,A7,c7,rfl,ae⟩:=hp;(try dsimp only at hp ae);obtain ⟨fz,hw⟩:=ez hb;obtain ⟨cQ,kj⟩:=dJ cJ gR hw;have ui:=r0 wS hw;have bR:=zh hp;have bf:=b0 aR hw;have nW:=b0 sY hw;have Us:=b0 QW hw;clear cJ gR wS sY bC aR hw;have ie:=zn (lo:=w6.heap.size) ae;clear ae hb hp h1;go_wp2_with fail;refine eO (E:=E) (dC (l:=[x7]) (aJ (S:=Iv w6.heap.size (w7.heap.size+1)) (n:=1) (aj.new' (by simp)) (aC.one (ie.o.keep (zr.za _) fun k hk=>⟨by have h1:=hk.1;omega,by have h2:=hk.2;first | omega | (simp;omega)⟩)) rfl (by decide) ⟨by first | omega | (simp;done) | (simp;omega),by first | omega | (simp;done) | (simp;omega)⟩) (ku (by first | omega | (simp;done) | (simp;omega))) (by simp)) ?_;intro w8 hb hx lz hw;obtain ⟨ek,tT⟩:=dJ cQ kj hw;have oW:=cW w7.heap.size hx;have sR:=r0 ui hw;have qM:=n0 ie hw;have dr:=dX bR hb;have dG:=b0 bf hw;have r7:=b0 nW hw;have MX:=b0 Us hw;clear cQ kj ui ie nW Us bR bf hw hb hx;(have mW:((E.tok i2).tx.toList == (⟨#[61]⟩:ByteArray).toList)=true:=by rw [ip];exact decide_eq_true fH.o);(have zC:((E.tok i2).tx.toList == [61])=true:=by have h9:=mW;rw [ByteArray.toList_eq ⟨#[61]⟩] at h9;exact h9);obtain ⟨nC,nB,nA,nz,ny,nx⟩:=tT.o.cells4;go_wp2_with fail;clear mW zC;obtain ⟨i0,fL,ga,f_,fZ⟩:=info_parts dO
     go_loopg [] (E.ts.length+1) (fun m wr=>∃ (f j:Nat) (ol:List No) (B:Option Addr) (c:Nat) (xs:List Value),m=f∧i7≤j∧ol≠[]∧Hd ((jb E.ts G f ol >>= fun q=>(bd E.ts 63 (E.tok i).fr (E.tok i2).tx [aB l2,aB q] >>= fun y=>pure (Sum.inl y))) (j,b)=some r)∧Hd (LQ E w6 wr j b w8.heap.size ol (.slice B ol.length c) xs (aB [x7]).fr (aB [x7]).to))
     case atStart=>exact ⟨E.ts.length+1,i7,[x7],(some ⟨w7.heap.size,0,none⟩),1,_,rfl,by omega,by simp,zh hr,zh ⟨(dr.o.alloc _),fO (n:=1) (oW.o.alloc _) (by omega) rfl (by unfold maxLen;omega),aC.one (qM.o.keep (zr.za _) fun k hk=>⟨by have h1:=hk.1;omega,by have h2:=hk.2;first | omega | (simp;omega),by have h2:=hk.2;simp [Value.ownBlock];omega,by have h2:=hk.2;omega⟩),(MX.o.alloc _).mono (fun _ _ h=>by rcases h with h | h;exact h;exact h.elim),by simp;omega,(aj.new' (by simp)),by simp [Value.ownBlock];omega,by omega⟩⟩
     case round=>
      skip
      obtain ⟨f,j,ol,B,c,xs,rfl,hj,Rl,HR,HL⟩:=hrel;(try rename World=>wr);cases gk with
      | zero=>exact absurd HR.o (by simp [jb,bind_def])
      | succ f=>
       have hr:=HR.o;rw [jb,bV] at hr;clear HR;have Nr:=HL.o.ps.ilt;have eN:=HL.o.len;have LN:=HL.o.blk.lt;have r6:=zh HL.o.ps;have hzb:=HL.o.but.size;have yz:=zh (Kbr.o.but HL.o.but (by omega));have Vi:=zh (Kbt.o.but HL.o.but (by omega));have Vf:Hd (aj wr w8.heap.size 25 #[.int .i64 65,.int .i64 (aB [x7]).fr,.int .i64 (aB [x7]).to,.string ⟨#[]⟩,.slice B ol.length c]):=zh HL.o.blk;have NX:Hd (aQ wr (Iv w1.heap.size w2.heap.size) (.slice (some ⟨lg,jW,none⟩) l2.length c2) l2):=zh (Nbl.o.keep (sx HL.o.but (by omega) (fun k h1 h2 e=>by omega)) fun _ h=>h);have PE:Hd (aQ wr (SV (Iv w6.heap.size w8.heap.size) (w8.heap.size+1) wr.heap.size) (.slice B ol.length c) ol):=zh (HL.o.row.keep zr fun k hk=>by have h1:=hk.1.1;have h2:=hk.1.2;have h3:=hk.2;rcases Nat.lt_or_ge k w8.heap.size with h4 | h4;exact .inl ⟨h1,h4⟩;exact .inr ⟨by omega,h2⟩);have sn:Hd (ay (fun k=>k=E.g∨(ζ∧k=gb)) w wr):=zh (HBb.o.trans HL.o.but (fun k hk h=>.inl h));have MY:Hd (ay (fun k=>gX E k) w wr):=zh (Yi.o.trans HL.o.but (fun k hk h=>.inl h));go_wp2_with fail;have Fl:Hd (ay (fun k=>gX E k) wr wr):=zh zb;by_cases hq:oneOf (E.tok j) [⟨#[44]⟩]=true
       ·
        replace hr:=aM hr hq;(try rw [if_pos rfl] at hr);refine qd (qG [⟨#[44]⟩] HE r6 hq) ?_;intro w9 hp hb hx nY hw;obtain ⟨fA,uL,TA⟩:=fq yz Vi Vf hw;have py:=r0 NX hw;have Ld:Hd (aQ w9 (SV (Iv w6.heap.size w8.heap.size) (w8.heap.size+1) wr.heap.size) (.slice B ol.length c) ol):=zh (PE.o.keep (cP hw (fun k hk=>by rcases hk with h1 | ⟨h1,h2⟩;(have h3:=h1.1;have h4:=h1.2;omega);omega) (fun k h1 e=>by rcases h1 with h1 | ⟨h1,h2⟩;(have h3:=h1.1;have h4:=h1.2;rcases e with e | e;omega;(try simp at e) <;> omega);(rcases e with e | e;omega;(try simp at e) <;> omega))) fun _ h=>h);have d6:=zh hp;have eG:=b0 sn hw;have Fj:=b0 Fl hw;have pG:=b0 MY hw;clear yz Vi Vf NX PE Fl MY r6 sn hw hb hx hp;have iO:=zh (HL.o.go (by omega) (Fj.o.mono (fun _ _ h=>by rcases h with h | h;exact h;exact h.elim)) d6.o (by omega));have sk:=zh hr;rw [bV] at sk;have WY:=iO.o.ps.ilt;clear hr HL fA uL TA py Ld Fj d6;have QZ:=iO.o.blk.cell 4;simp at QZ;have UA:=iO.o.blk.frozen;have Uz:=iO.o.blk.lt;have Ng:=iO.o.but.size;go_wp2_with fail
        go_region_law
         (first
           | (go_simp
              go_at_call 21
              obtain ⟨rx,h1,hr⟩:=ag sk.o;refine (bZ HE.o HF.o HO.o (by omega) h1 iO.o.ps.drew).mono ?_;rintro e w2 ⟨cK,jM⟩;rcases rx with p | ⟨x,i2,b2⟩
              · try dsimp only at jM hr
                obtain rfl:=jM;subst hr;exact ⟨rfl,eG.o.trans cK.undrew (fun _ _ h=>by rcases h with h | h;exact .inl h;exact h.elim),rfl⟩
              obtain ⟨cq,v,rfl,A2,c2,rfl,ae⟩:=jM;(try dsimp only at hr cq ae);obtain ⟨sC,rfl⟩:=zf ((expr_fin HE.o.wt HF.o (by omega) WY).2 _ _ h1);have ep:=cK.size;(try simp at ep);have r5:=zh hr;have aE:Hd (ay (fun k=>k=E.g) w9 w2):=zh (cK.undrew.mono fun _ _ h=>by rcases h with h | h;exact h;exact h.elim);have bn:=zh cq;have AO:Hd (bG w2 (kE w9 w2) x [.int .i64 x.k,.int .i64 x.fr,.int .i64 x.to,.string x.tx,.slice A2 x.ks.length c2]):=zh (bG.mk_ (n:=x) (ae.keep zr fun _ hk=>hk));have nV:Hd (w2.ownsRow w6.heap.size 25 5 (.slice B ol.length c) ol.length xs):=zh (bk iO.o.own fun k hk=>aE.o.block k (iO.o.own.lt k hk).2 (fun e=>by have h3:=(iO.o.own.lt k hk).1;omega));have TV:=zh (iO.o.blk.but aE.o (by omega));have Qj:=TV.o.cell 4;simp at Qj;have Q0:=TV.o.lt
              clear hr cK cq ae h1)
           | (refine bE _ rfl _ _ 23 rfl w6.heap.size 25 i0 _ 5 64 underlying23 fL ga f_ fZ rfl (by omega) (.slice B ol.length c) ol.length xs (by simp [Act.eval]) (nV.o.alloc _) (fun k=>k=w2.heap.size) (.slice (some ⟨w2.heap.size,0,none⟩) 1 1) 1 [.int .i64 x.k,.int .i64 x.fr,.int .i64 x.to,.string x.tx,.slice A2 x.ks.length c2] (by simp [Act.eval]) ((aj.new w2 _ _).row (n:=1) rfl (by unfold maxLen;omega) rfl) pu (by unfold maxLen;omega) (by omega) (by simp;omega) ?_
              intro v' w3 aD hg bN cX;obtain ⟨B3,c3,rfl⟩:=cA aD;have P8:=zh aD;have Qe:=zh hg;have tZ:=zh cX;have TU:=zh ((TV.o.alloc _).grown hg (fun e=>iO.o.ne e.symm));have pH:=TU.o.cell 4;simp at pH;have qg:=TU.o.frozen 4;have qe:=TU.o.lt
              clear aD hg bN cX))
        all_goals
         first | go_wp2_with fail | skip
         go_roundg f
         case measure=>omega
         case rel=>exact ⟨f,i2,ol ++ [x],B3,c3,_,rfl,by omega,by simp,r5,zh (by rw [show (ol ++ [x]).length=ol.length+1 from by simp];exact LQ.step iO.o (by omega) (by omega) aE.o bn.o AO.o (by omega) P8.o Qe.o (by simpa using tZ.o))⟩
       ·
        replace hq:=Bool.eq_false_iff.2 hq;replace hr:=aN hr hq;(try rw [if_neg Bool.false_ne_true] at hr);refine eO (E:=E) (qH [⟨#[44]⟩] HE r6 hq) ?_;intro w9 hb hx nY hw;obtain ⟨fA,uL,TA⟩:=fq yz Vi Vf hw;have py:=r0 NX hw;have Ld:Hd (aQ w9 (SV (Iv w6.heap.size w8.heap.size) (w8.heap.size+1) wr.heap.size) (.slice B ol.length c) ol):=zh (PE.o.keep (cP hw (fun k hk=>by rcases hk with h1 | ⟨h1,h2⟩;(have h3:=h1.1;have h4:=h1.2;omega);omega) (fun k h1 e=>by rcases h1 with h1 | ⟨h1,h2⟩;(have h3:=h1.1;have h4:=h1.2;rcases e with e | e;omega;(try simp at e) <;> omega);(rcases e with e | e;omega;(try simp at e) <;> omega))) fun _ h=>h);have d6:=dX r6 hb;have eG:=b0 sn hw;have Fj:=b0 Fl hw;have pG:=b0 MY hw;clear yz Vi Vf NX PE Fl MY r6 sn hw hb hx HL;replace hr:=bJ hr;(try dsimp only at hr);clear Fj;obtain ⟨VA,Vz,Vy,Vx,QZ,UA,Uz⟩:=TA.o.cells5;go_wp2_with fail;refine mr (E:=E) (dC (Ld.o.keep (aI.refl (SV (Iv w6.heap.size w8.heap.size) (w8.heap.size+1) wr.heap.size) w9) fun _ h=>h) (fun k hk=>by rcases hk with h1 | ⟨h1,h2⟩;(have h3:=h1.2;first | omega | (simp;omega));(first | omega | (simp;omega))) Rl) ?_;intro gP hb hx kw hw;obtain ⟨dj,jQ,Ho⟩:=fq fA uL TA hw;have ki:=r0 py hw;have J':Hd (aQ gP (SV (Iv w6.heap.size w8.heap.size) (w8.heap.size+1) wr.heap.size) (.slice B ol.length c) ol):=zh (Ld.o.keep (cP hw (fun k hk=>by rcases hk with h1 | ⟨h1,h2⟩;(have h3:=h1.1;have h4:=h1.2;omega);omega) (fun k h1 e=>by rcases h1 with h1 | ⟨h1,h2⟩;(have h3:=h1.1;have h4:=h1.2;rcases e with e | e;omega;(try simp at e) <;> omega);(rcases e with e | e;omega;(try simp at e) <;> omega))) fun _ h=>h)
        have cg:=fN d6 hb;have cL:=b0 eG hw;have kl:=b0 pG hw;clear VA Vz Vy Vx QZ UA Uz fA uL TA py Ld pG d6 eG hw hb hx;obtain ⟨VA,Vz,Vy,Vx,QZ,UA,Uz⟩:=Ho.o.cells5;obtain ⟨nC,nB,nA,nz,ny,nx⟩:=jQ.o.cells4;go_wp2_with fail;refine kq ?_;rintro iP hb;have hx:=rn (E:=E) hb;have k8:=hx.size;(try simp at k8);have hw:ay (Xs E [w8.heap.size]) gP iP:=(zb.set5 (.inr (.inr (by simp))) _ _ _ _ _).trans hx xg;have dS:=k1 dj hw;have kz:=k1 jQ hw;have CN:Hd (aj iP w8.heap.size 25 #[.int .i64 65,.int .i64 (aB ol).fr,.int .i64 (aB ol).to,.string ⟨#[]⟩,.slice B ol.length c]):=zh ((Ho.o.p5).but hx (ng (by omega)));have nS:=r1 ki hw;have Aj:Hd (aQ iP (SV (Iv w6.heap.size w8.heap.size) (w8.heap.size+1) wr.heap.size) (.slice B ol.length c) ol):=zh (J'.o.keep (cP hw (fun k hk=>by rcases hk with h1 | ⟨h1,h2⟩;(have h3:=h1.1;have h4:=h1.2;omega);omega) (fun k h1 e=>by rcases h1 with h1 | ⟨h1,h2⟩;(have h3:=h1.1;have h4:=h1.2;rcases e with e | e;omega;(try simp at e) <;> omega);(rcases e with e | e;omega;(try simp at e) <;> omega))) fun _ h=>h);have dy:=zh ((cg.o.f6).below hb);have d7:=YtfmgdmeopakdaaaGreatDoor.b2 cL hw (by simp <;> omega);have qc:=b1 kl hw (by omega);clear VA Vz Vy Vx QZ UA Uz nC nB nA nz ny nx dj jQ Ho ki J' kl cg cL hw hb hx;have NK:Hd (bG iP (SV (Iv w6.heap.size w8.heap.size) (w8.heap.size+1) wr.heap.size) (aB ol) [.int .i64 65,.int .i64 (aB ol).fr,.int .i64 (aB ol).to,.string ⟨#[]⟩,.slice B ol.length c]):=zh (bG.mk_ (n:=aB ol) Aj.o)
        refine wp_region_held_drew (S:=(fun w'=>w'.cell? ⟨w3.heap.size,3,none⟩=some (.string (E.tok i2).tx)∧ze w' w8.heap.size (.int .i64 65) (.int .i64 (aB ol).fr) (.int .i64 (aB ol).to) (.string ⟨#[]⟩) (.slice B ol.length c))) (by kernel_rfl) (by exact ⟨((kz.o.drew.cell 3).trans rfl),CN.o.drew.ze⟩) (fun ac=>?_);refine ew ?_ ac;clear ac;rintro kU hb ac;obtain ⟨hx,oC,hw⟩:=nX (E:=E) hb;obtain ⟨eP,rV,CM⟩:=fq dS kz CN hw;have sS:=r0 nS hw;have EZ:Hd (aQ kU (SV (Iv w6.heap.size w8.heap.size) (w8.heap.size+1) wr.heap.size) (.slice B ol.length c) ol):=zh (Aj.o.keep (cP hw (fun k hk=>by rcases hk with h1 | ⟨h1,h2⟩;(have h3:=h1.1;have h4:=h1.2;omega);omega) (fun k h1 e=>by rcases h1 with h1 | ⟨h1,h2⟩;(have h3:=h1.1;have h4:=h1.2;rcases e with e | e;omega;(try simp at e) <;> omega);(rcases e with e | e;omega;(try simp at e) <;> omega))) fun _ h=>h);have NJ:Hd (bG kU (SV (Iv w6.heap.size w8.heap.size) (w8.heap.size+1) wr.heap.size) (aB ol) [.int .i64 65,.int .i64 (aB ol).fr,.int .i64 (aB ol).to,.string ⟨#[]⟩,.slice B ol.length c]):=zh (NK.o.keep (cP hw (fun k hk=>by rcases hk with h1 | ⟨h1,h2⟩;(have h3:=h1.1;have h4:=h1.2;omega);omega) (fun k h1 e=>by rcases h1 with h1 | ⟨h1,h2⟩;(have h3:=h1.1;have h4:=h1.2;rcases e with e | e;omega;(try simp at e) <;> omega);(rcases e with e | e;omega;(try simp at e) <;> omega))) fun _ h=>h);have eR:=fN dy hb;have fc:=b0 d7 hw;have p_:=b0 qc hw;clear dS kz CN nS Aj NK qc dy d7 hw hb hx;refine aK 6 (by kernel_rfl) (fun aF=>?_)
        (iterate 6 (refine zt aF ?_;try simp only [zl]));refine rb ?_;clear aF;refine wpAnyH_take (i:=7) (v:=?_) rfl (by kernel_rfl) (by kernel_rfl) (by kernel_rfl) (fun _ _ _ h=>h) (Or.inl ⟨by rfl,?_⟩) (by assumption) ?_
        rotate_left
        ·
         intro W aH;(try dsimp only [ze] at aH);(try simp only [cr,cj,ch]);go_simp;first | done | rfl
        (try simp only [zl]);refine zq 6 (fun K hK=>?_);(try simp only [cr,cj,ch]);go_simp
        go_at_call 185
        refine mr (E:=E) (dC (sS.o.keep zr fun _ h=>h) (ku (by first | omega | (simp;done) | (simp;omega))) gQ) ?_;intro nO hb hx rr hw;obtain ⟨gZ,xG,Aq⟩:=fq eP rV CM hw;have xE:=r0 sS hw;have Cy:Hd (aQ nO (SV (Iv w6.heap.size w8.heap.size) (w8.heap.size+1) wr.heap.size) (.slice B ol.length c) ol):=zh (EZ.o.keep (cP hw (fun k hk=>by rcases hk with h1 | ⟨h1,h2⟩;(have h3:=h1.1;have h4:=h1.2;omega);omega) (fun k h1 e=>by rcases h1 with h1 | ⟨h1,h2⟩;(have h3:=h1.1;have h4:=h1.2;rcases e with e | e;omega;(try simp at e) <;> omega);(rcases e with e | e;omega;(try simp at e) <;> omega))) fun _ h=>h);have NI:Hd (bG nO (SV (Iv w6.heap.size w8.heap.size) (w8.heap.size+1) wr.heap.size) (aB ol) [.int .i64 65,.int .i64 (aB ol).fr,.int .i64 (aB ol).to,.string ⟨#[]⟩,.slice B ol.length c]):=zh (NJ.o.keep (cP hw (fun k hk=>by rcases hk with h1 | ⟨h1,h2⟩;(have h3:=h1.1;have h4:=h1.2;omega);omega) (fun k h1 e=>by rcases h1 with h1 | ⟨h1,h2⟩;(have h3:=h1.1;have h4:=h1.2;rcases e with e | e;omega;(try simp at e) <;> omega);(rcases e with e | e;omega;(try simp at e) <;> omega))) fun _ h=>h);have fB:=fN eR hb;have gO:=b0 fc hw;have tY:=b0 p_ hw;clear eP rV CM sS EZ NJ p_ eR fc hw hb hx;refine hK.out _ _ (by exact ⟨((xG.o.cell 3).trans rfl),Aq.o.ze⟩) (fun ac=>?_);clear hK K;(try simp only [zl]);have Kf:Hd (bG nO (Iv w1.heap.size w2.heap.size) (aB l2) [.int .i64 65,.int .i64 (aB l2).fr,.int .i64 (aB l2).to,.string ⟨#[]⟩,.slice (some ⟨lg,jW,none⟩) l2.length c2]):=zh (bG.mk_ (n:=aB l2) xE.o);refine zq 8 (fun K hK=>?_);(try simp only [cr,cj,ch]);go_simp;refine hK.out _ _ (by exact ⟨(((xG.o.alloc _).cell 3).trans rfl),(Aq.o.alloc _).ze⟩) (fun ac=>?_);clear hK K;(try simp only [zl]);refine zq 9 (fun K hK=>?_);(try simp only [cr,cj,ch]);go_simp
        go_at_call 62
        refine eO (E:=E) (ak HE.o (fB.o.alloc _) (by omega)) ?_;intro yF hb hx xi hw;obtain ⟨iF,Hr,CL⟩:=fq gZ xG Aq hw;have CS:=cW nO.heap.size hx;have Kq:=r0 xE hw;have J9:Hd (aQ yF (SV (Iv w6.heap.size w8.heap.size) (w8.heap.size+1) wr.heap.size) (.slice B ol.length c) ol):=zh (Cy.o.keep (cP hw (fun k hk=>by rcases hk with h1 | ⟨h1,h2⟩;(have h3:=h1.1;have h4:=h1.2;omega);omega) (fun k h1 e=>by rcases h1 with h1 | ⟨h1,h2⟩;(have h3:=h1.1;have h4:=h1.2;rcases e with e | e;omega;(try simp at e) <;> omega);(rcases e with e | e;omega;(try simp at e) <;> omega))) fun _ h=>h);have SJ:Hd (bG yF (SV (Iv w6.heap.size w8.heap.size) (w8.heap.size+1) wr.heap.size) (aB ol) [.int .i64 65,.int .i64 (aB ol).fr,.int .i64 (aB ol).to,.string ⟨#[]⟩,.slice B ol.length c]):=zh (NI.o.keep (cP hw (fun k hk=>by rcases hk with h1 | ⟨h1,h2⟩;(have h3:=h1.1;have h4:=h1.2;omega);omega) (fun k h1 e=>by rcases h1 with h1 | ⟨h1,h2⟩;(have h3:=h1.1;have h4:=h1.2;rcases e with e | e;omega;(try simp at e) <;> omega);(rcases e with e | e;omega;(try simp at e) <;> omega))) fun _ h=>h);have PI:=n0 Kf hw;have iU:=dX fB hb;have jt:=b0 gO hw;have yE:=b0 tY hw;clear gZ xG Aq xE Cy NI Kf tY fB gO hw hb hx;refine hK.out _ _ (by exact ⟨((Hr.o.cell 3).trans rfl),CL.o.ze⟩) (fun ac=>?_);clear hK K
        (try simp only [zl]);obtain ⟨di,dh,de,dd,dc,db,da⟩:=iF.o.cells5;refine zq 10 (fun K hK=>?_);(try simp only [cr,cj,ch]);go_simp;refine hK.out _ _ (by exact ⟨(((Hr.o.f5).cell 3).trans rfl),(CL.o.f5).ze⟩) (fun ac=>?_);clear hK K;(try simp only [zl]);clear di dh de dd dc db da;refine wpAnyH_done (by kernel_rfl) ?_ _;go_wp2_with fail;replace hr:=bv hr;obtain rfl:=ar hr;exact am (r:=w.heap.size) results180 (by rfl) iF.o.p5 (by rfl) ⟨jt.o.s5,iU.o.f6,_,rfl,⟨oz ⟨_,_,rfl,aJ (n:=2) CS.o.f5 (aC.cons_ (zv (E:=E) PI) (aC.one (SJ.o.keep ((aI.refl (SV (Iv w6.heap.size w8.heap.size) (w8.heap.size+1) wr.heap.size) yF).set5 (by intro hk;rcases hk with h1 | ⟨h1,h2⟩;(have h3:=h1.1;have h4:=h1.2;omega);omega) _ _ _ _ _) fun k hk=>by rcases hk with h1 | ⟨h1,h2⟩;exact ⟨by (have h3:=h1.1;first | omega | (simp;omega)),by (have h3:=h1.2;first | omega | (simp;omega))⟩;exact ⟨by (skip;first | omega | (simp;omega)),by (skip;first | omega | (simp;omega))⟩))) rfl (by decide) (⟨by omega,by simp <;> omega⟩)⟩,HI.o _ ((Lc yE.o).set5 (by first | exact .inr (.inr rfl) | exact .inl (by omega)) _ _ _ _ _)⟩⟩
    ·
     rw [if_neg hq] at hr;replace hq:=Bool.eq_false_iff.2 hq;refine eO (E:=E) (qH [⟨#[61]⟩] HE bH hq) ?_;intro w6 hb hx iK hw;obtain ⟨cJ,gR⟩:=dJ cN jP hw;have wS:=r0 wv hw;have bC:=dX bH hb;have aR:=b0 a8 hw;have sY:=b0 H_ hw;clear cN jP wv H_ bH a8 hw hb hx hq;(have OV:l2.length=1∨¬ l2.length=1:=by omega);rcases OV with kx | kx
     ·
      (have kB:((l2.length:Int) == 1)=true:=by rw [kx];rfl);have D9:decide (l2.length=1)=true:=decide_eq_true kx;have iO:=zh kx;clear kx;go_wp2_with fail;by_cases hq:oneOf (E.tok i2) [⟨#[43,61]⟩,⟨#[45,61]⟩,⟨#[42,61]⟩,⟨#[47,61]⟩,⟨#[37,61]⟩]=true
      ·
       rw [if_pos (⟨iO.o,hq⟩)] at hr;replace hr:=cy hr;refine qd (qG [⟨#[43,61]⟩,⟨#[45,61]⟩,⟨#[42,61]⟩,⟨#[47,61]⟩,⟨#[37,61]⟩] HE bC hq) ?_;intro w7 hp hb hx fz hw;obtain ⟨cQ,kj⟩:=dJ cJ gR hw;have ui:=r0 wS hw;have bR:=zh hp;have bf:=b0 aR hw;have nW:=b0 sY hw;clear cJ gR wS sY bC aR hw hb hx hp;have hm:=FE hq;have fH:Hd (¬ (E.tok i2).tx=⟨#[61]⟩):=zh (by intro e;rw [e] at hm;simp at hm);clear hm hq;go_wp2_with fail;have QW:Hd (ay (fun k=>gX E k) w7 w7):=zh zb;obtain ⟨rx,h1,hr⟩:=ag hr;refine (bZ HE.o HF.o HO.o (by omega) h1 bR.o).mono ?_;rintro e w8 hp;rcases rx with p | ⟨x8,i8,b8⟩
       ·
        obtain ⟨hb,rfl⟩:=hp;cases hr;(try go_wp2_with fail);exact ⟨rfl,bf.o.trans hb mg,rfl⟩
       (try dsimp only at hr);obtain ⟨OZ,rfl⟩:=zf ((expr_fin HE.o.wt HF.o (by omega) bR.o.ilt).2 _ _ h1);obtain ⟨hb,hp,v,rfl,A8,c8,rfl,ae⟩:=hp;(try dsimp only at hp ae);obtain ⟨lz,hw⟩:=ez hb;obtain ⟨ek,tT⟩:=dJ cQ kj hw;have sR:=r0 ui hw;have dr:=zh hp;have dG:=b0 bf hw;have r7:=b0 nW hw;have MX:=b0 QW hw;clear cQ kj ui nW bR bf hw;have qM:=zn (lo:=w7.heap.size) ae;clear ae hb hp h1;go_wp2_with fail;refine eO (E:=E) (dC (l:=[x8]) (aJ (S:=Iv w7.heap.size (w8.heap.size+1)) (n:=1) (aj.new' (by simp)) (aC.one (qM.o.keep (zr.za _) fun k hk=>⟨by have h1:=hk.1;omega,by have h2:=hk.2;first | omega | (simp;omega)⟩)) rfl (by decide) ⟨by first | omega | (simp;done) | (simp;omega),by first | omega | (simp;done) | (simp;omega)⟩) (ku (by first | omega | (simp;done) | (simp;omega))) (by simp)) ?_;intro w9 hb hx nY hw;obtain ⟨fA,uL⟩:=dJ ek tT hw;have ut:=cW w8.heap.size hx;have py:=r0 sR hw;have Il:=n0 qM hw;have d6:=dX dr hb;have eG:=b0 dG hw;have pG:=b0 r7 hw;have Ur:=b0 MX hw;clear ek tT sR qM r7 MX dr dG hw hb hx;(have mW:((E.tok i2).tx.toList == (⟨#[61]⟩:ByteArray).toList)=false:=by rw [ip];exact decide_eq_false fH.o);(have zC:((E.tok i2).tx.toList == [61])=false:=by have h9:=mW;rw [ByteArray.toList_eq ⟨#[61]⟩] at h9;exact h9);obtain ⟨nC,nB,nA,nz,ny,nx⟩:=uL.o.cells4;go_wp2_with fail;clear mW zC
       have Ld:Hd (bG w9 (Iv w7.heap.size w9.heap.size) (aB [x8]) [.int .i64 65,.int .i64 (aB [x8]).fr,.int .i64 (aB [x8]).to,.string ⟨#[]⟩,.slice (some ⟨w8.heap.size,0,none⟩) 1 1]):=zh (bG.mk_ (n:=aB [x8]) (aJ (n:=1) ut.o (aC.one (Il.o.keep zr fun k hk=>⟨by have h1:=hk.1;omega,by have h2:=hk.2;omega⟩)) rfl (by decide) ⟨by omega,by omega⟩));refine wp_region_held_drew (S:=(fun w'=>w'.cell? ⟨w3.heap.size,3,none⟩=some (.string (E.tok i2).tx)∧ze w' w9.heap.size (.int .i64 65) (.int .i64 (aB [x8]).fr) (.int .i64 (aB [x8]).to) (.string ⟨#[]⟩) (.slice (some ⟨w8.heap.size,0,none⟩) 1 1))) (by kernel_rfl) (by exact ⟨(((uL.o.alloc _).drew.cell 3).trans rfl),(aj.new' (by simp)).drew.ze⟩) (fun ac=>?_);refine ew ?_ ac;clear ac;rintro gP hb ac;obtain ⟨hx,kw,hw⟩:=Dc (E:=E) hb;obtain ⟨dj,jQ,tW⟩:=fq fA uL ut hw;have Ho:=cW w9.heap.size hx;have ki:=r0 py hw;have Ak:=n0 Il hw;have J':=n0 Ld hw;have cg:=dX d6 hb;have cL:=b0 eG hw;have kl:=b0 pG hw;have Oi:=b0 Ur hw;clear nC nB nA nz ny nx fA uL ut py Il Ld pG Ur d6 eG hw hb hx;refine aK 6 (by kernel_rfl) (fun aF=>?_)
       (iterate 6 (refine zt aF ?_;try simp only [zl]));refine rb ?_;clear aF;refine wpAnyH_take (i:=7) (v:=?_) rfl (by kernel_rfl) (by kernel_rfl) (by kernel_rfl) (fun _ _ _ h=>h) (Or.inl ⟨by rfl,?_⟩) (by assumption) ?_
       rotate_left
       ·
        intro W aH;(try dsimp only [ze] at aH);(try simp only [cr,cj,ch]);go_simp;first | done | rfl
       (try simp only [zl]);refine zq 6 (fun K hK=>?_);(try simp only [cr,cj,ch]);go_simp
       go_at_call 185
       refine mr (E:=E) (dC (ki.o.keep zr fun _ h=>h) (ku (by first | omega | (simp;done) | (simp;omega))) gQ) ?_;intro iP hb hx k8 hw;obtain ⟨dS,kz,tV,CN⟩:=jd dj jQ tW Ho hw;have nS:=r0 ki hw;have Cz:=n0 Ak hw;have Aj:=n0 J' hw;have dy:=fN cg hb;have d7:=b0 cL hw;have qc:=b0 kl hw;have Oh:=b0 Oi hw;clear dj jQ tW Ho ki Ak J' kl Oi cg cL hw hb hx;refine hK.out _ _ (by exact ⟨((kz.o.cell 3).trans rfl),CN.o.ze⟩) (fun ac=>?_);clear hK K;(try simp only [zl]);have SZ:Hd (bG iP (Iv w1.heap.size w2.heap.size) (aB l2) [.int .i64 65,.int .i64 (aB l2).fr,.int .i64 (aB l2).to,.string ⟨#[]⟩,.slice (some ⟨lg,jW,none⟩) l2.length c2]):=zh (bG.mk_ (n:=aB l2) nS.o);refine zq 8 (fun K hK=>?_);(try simp only [cr,cj,ch]);go_simp;refine hK.out _ _ (by exact ⟨(((kz.o.alloc _).cell 3).trans rfl),(CN.o.alloc _).ze⟩) (fun ac=>?_);clear hK K;(try simp only [zl]);refine zq 9 (fun K hK=>?_);(try simp only [cr,cj,ch]);go_simp
       go_at_call 62
       refine eO (E:=E) (ak HE.o (dy.o.alloc _) (by omega)) ?_;intro kU hb hx oC hw;obtain ⟨eP,rV,KN,CM⟩:=jd dS kz tV CN hw;have tU:=cW iP.heap.size hx;have sS:=r0 nS hw;have E0:=n0 Cz hw;have EZ:=n0 Aj hw;have XK:=n0 SZ hw;have eR:=dX dy hb;have fc:=b0 d7 hw;have p_:=b0 qc hw;have HBq12:=b0 Oh hw;clear dS kz tV CN nS Cz Aj SZ qc Oh dy d7 hw hb hx;refine hK.out _ _ (by exact ⟨((rV.o.cell 3).trans rfl),CM.o.ze⟩) (fun ac=>?_);clear hK K;(try simp only [zl]);obtain ⟨di,dh,de,dd,dc,db,da⟩:=eP.o.cells5;refine zq 10 (fun K hK=>?_);(try simp only [cr,cj,ch]);go_simp;refine hK.out _ _ (by exact ⟨(((rV.o.f5).cell 3).trans rfl),(CM.o.f5).ze⟩) (fun ac=>?_);clear hK K
       (try simp only [zl]);clear di dh de dd dc db da;refine wpAnyH_done (by kernel_rfl) ?_ _;go_wp2_with fail;replace hr:=bv hr;obtain rfl:=ar hr;exact am (r:=w.heap.size) results180 (by rfl) eP.o.p5 (by rfl) ⟨fc.o.s5,eR.o.f6,_,rfl,⟨oz ⟨_,_,rfl,aJ (n:=2) tU.o.f5 (aC.cons_ (zv (E:=E) XK) (aC.one (zv (E:=E) EZ))) rfl (by decide) (⟨by omega,by simp <;> omega⟩)⟩,HI.o _ ((Lc p_.o).set5 (by first | exact .inr (.inr rfl) | exact .inl (by omega)) _ _ _ _ _)⟩⟩
      ·
       rw [if_neg (fun e=>hq e.2)] at hr;replace hq:=Bool.eq_false_iff.2 hq;refine eO (E:=E) (qH [⟨#[43,61]⟩,⟨#[45,61]⟩,⟨#[42,61]⟩,⟨#[47,61]⟩,⟨#[37,61]⟩] HE bC hq) ?_;intro w7 hb hx fz hw;obtain ⟨cQ,kj⟩:=dJ cJ gR hw;have ui:=r0 wS hw;have bR:=dX bC hb;have bf:=b0 aR hw;have nW:=b0 sY hw;clear cJ gR wS sY bC aR hw hb hx hq;go_wp2_with fail;by_cases hq:oneOf (E.tok i2) [⟨#[43,43]⟩,⟨#[45,45]⟩]=true
       ·
        rw [if_pos (⟨iO.o,hq⟩)] at hr;replace hr:=cy hr;refine qd (qG [⟨#[43,43]⟩,⟨#[45,45]⟩] HE bR hq) ?_;intro w8 hp hb hx lz hw;obtain ⟨ek,tT⟩:=dJ cQ kj hw;have sR:=r0 ui hw;have dr:=zh hp;have dG:=b0 bf hw;have r7:=b0 nW hw;clear cQ kj ui nW bR bf hw hb hx hp hq;go_wp2_with fail;obtain ⟨LA,lc,vz,tC⟩:=sR.o.hd3 gQ H8.o;have Im:Hd (bG w8 (Iv w1.heap.size w2.heap.size) ea [.int .i64 ea.k,.int .i64 ea.fr,.int .i64 ea.to,.string ea.tx,.slice LA ea.ks.length lc]):=zh tC;have kF:Hd (HC w8 (Iv w1.heap.size w2.heap.size) lg jW ea LA lc):=zh vz;clear tC vz;refine wp_region_held_drew (S:=(fun w'=>w'.cell? ⟨lg,jW,none⟩=some (.int .i64 ea.k)∧w'.cell? ⟨lg,jW+1,none⟩=some (.int .i64 ea.fr)∧w'.cell? ⟨lg,jW+2,none⟩=some (.int .i64 ea.to)∧w'.cell? ⟨lg,jW+3,none⟩=some (.string ea.tx)∧w'.cell? ⟨lg,jW+4,none⟩=some (.slice LA ea.ks.length lc)∧w'.cell? ⟨w3.heap.size,3,none⟩=some (.string (E.tok i2).tx))) (by kernel_rfl) (by exact ⟨(kF.o.keep zr fun _ h=>h).c0,(kF.o.keep zr fun _ h=>h).c1,(kF.o.keep zr fun _ h=>h).c2,(kF.o.keep zr fun _ h=>h).c3,(kF.o.keep zr fun _ h=>h).c4,((tT.o.drew.cell 3).trans rfl)⟩) (fun ac=>?_);refine ew ?_ ac;clear ac;rintro w9 hb ac;obtain ⟨hx,nY,hw⟩:=nX (E:=E) hb;obtain ⟨fA,uL⟩:=dJ ek tT hw;have py:=r0 sR hw;have NY:=n0 Im hw;have oc:Hd (HC w9 (Iv w1.heap.size w2.heap.size) lg jW ea LA lc):=zh (kF.o.keep (jF hw (by omega) (by omega) (by simp <;> omega)) fun _ h=>h);have d6:=fN dr hb;have eG:=b0 dG hw;have pG:=b0 r7 hw;clear ek tT sR Im kF r7 dr dG hw hb hx;refine aK 7 (by kernel_rfl) (fun aF=>?_)
        (iterate 7 (refine zt aF ?_;try simp only [zl]));refine rb ?_;clear aF;refine zq 7 (fun K hK=>?_);(try simp only [cr,cj,ch]);go_simp;refine hK.out _ _ (by exact ⟨(oc.o.keep (zr.za _) fun _ h=>h).c0,(oc.o.keep (zr.za _) fun _ h=>h).c1,(oc.o.keep (zr.za _) fun _ h=>h).c2,(oc.o.keep (zr.za _) fun _ h=>h).c3,(oc.o.keep (zr.za _) fun _ h=>h).c4,(((uL.o.alloc _).cell 3).trans rfl)⟩) (fun ac=>?_);clear hK K;(try simp only [zl]);refine zq 8 (fun K hK=>?_);(try simp only [cr,cj,ch]);go_simp
        go_at_call 62
        refine eO (E:=E) (ak HE.o (d6.o.alloc _) (by omega)) ?_;intro gP hb hx kw hw;obtain ⟨dj,jQ⟩:=dJ fA uL hw;have p7:=cW w9.heap.size hx;have ki:=r0 py hw;have CK:=n0 NY hw;have gn:Hd (HC gP (Iv w1.heap.size w2.heap.size) lg jW ea LA lc):=zh (oc.o.keep (jF hw (by omega) (by omega) (by simp <;> omega)) fun _ h=>h);have cg:=dX d6 hb;have cL:=b0 eG hw;have kl:=b0 pG hw;clear fA uL py NY oc pG d6 eG hw hb hx;refine hK.out _ _ (by exact ⟨(gn.o.keep zr fun _ h=>h).c0,(gn.o.keep zr fun _ h=>h).c1,(gn.o.keep zr fun _ h=>h).c2,(gn.o.keep zr fun _ h=>h).c3,(gn.o.keep zr fun _ h=>h).c4,((jQ.o.cell 3).trans rfl)⟩) (fun ac=>?_);clear hK K;(try simp only [zl]);obtain ⟨di,dh,de,dd,dc,db,da⟩:=dj.o.cells5;refine zq 9 (fun K hK=>?_);(try simp only [cr,cj,ch]);go_simp;refine hK.out _ _ (by exact ⟨(gn.o.keep (zr.set5 (iv (by omega)) _ _ _ _ _) fun _ h=>h).c0,(gn.o.keep (zr.set5 (iv (by omega)) _ _ _ _ _) fun _ h=>h).c1,(gn.o.keep (zr.set5 (iv (by omega)) _ _ _ _ _) fun _ h=>h).c2,(gn.o.keep (zr.set5 (iv (by omega)) _ _ _ _ _) fun _ h=>h).c3,(gn.o.keep (zr.set5 (iv (by omega)) _ _ _ _ _) fun _ h=>h).c4,(((jQ.o.f5).cell 3).trans rfl)⟩) (fun ac=>?_);clear hK K
        (try simp only [zl]);clear di dh de dd dc db da;refine wpAnyH_done (by kernel_rfl) ?_ _;go_wp2_with fail;replace hr:=bv hr;obtain rfl:=ar hr;exact am (r:=w.heap.size) results180 (by rfl) dj.o.p5 (by rfl) ⟨cL.o.s5,cg.o.f6,_,rfl,⟨oz ⟨_,_,rfl,aJ (n:=1) p7.o.f5 (aC.one (zv (E:=E) CK)) rfl (by decide) (⟨by omega,by simp <;> omega⟩)⟩,HI.o _ ((Lc kl.o).set5 (by first | exact .inr (.inr rfl) | exact .inl (by omega)) _ _ _ _ _)⟩⟩
       ·
        rw [if_neg (fun e=>hq e.2)] at hr;replace hq:=Bool.eq_false_iff.2 hq;refine eO (E:=E) (qH [⟨#[43,43]⟩,⟨#[45,45]⟩] HE bR hq) ?_;intro w8 hb hx lz hw;obtain ⟨ek,tT⟩:=dJ cQ kj hw;have sR:=r0 ui hw;have dr:=dX bR hb;have dG:=b0 bf hw;have r7:=b0 nW hw;clear cQ kj ui nW bR bf hw hb hx hq;go_wp2_with fail;refine mr (E:=E) (tv (sR.o.keep zr fun _ h=>h) (ku (by first | omega | (simp;done) | (simp;omega)))) ?_;intro w9 hb hx nY hw;obtain ⟨fA,uL⟩:=dJ ek tT hw;have py:=r0 sR hw;have d6:=fN dr hb;have eG:=b0 dG hw;have pG:=b0 r7 hw;clear ek tT sR r7 dr dG hw hb hx;by_cases hn:iB l2=true
        ·
         rw [hn];go_wp2_with fail;by_cases hq:oneOf (E.tok i2) [⟨#[58,61]⟩]=true
         ·
          rw [if_pos (⟨hn,hq⟩)] at hr;replace hr:=cy hr;refine qd (qG [⟨#[58,61]⟩] HE d6 hq) ?_;intro gP hp hb hx kw hw;obtain ⟨dj,jQ⟩:=dJ fA uL hw;have ki:=r0 py hw;have cg:=zh hp;have cL:=b0 eG hw;have kl:=b0 pG hw;clear fA uL py pG d6 eG hw hb hx hp hq hn;go_wp2_with fail;obtain ⟨rx,h1,hr⟩:=ag hr;refine (Z9.o _ (Iv w1.heap.size w2.heap.size) _ _ _ _ _ _ (by omega) (by first | omega | (simp;omega)) (fun k hk=>⟨by have:=hk.2;first | omega | (simp;omega),by have:=hk.1;omega,by have:=hk.1;omega⟩) (ki.o.keep zr fun _ h=>h) h1 cg.o (HI.o _ (Lc kl.o))).mono ?_;rintro e iP hp;rcases rx with p | ⟨ou,Qo,Sz⟩
          ·
           obtain ⟨hb,rfl⟩:=hp;cases hr;(try go_wp2_with fail);exact ⟨rfl,cL.o.trans hb fun _ _ h=>h,rfl⟩
          (try dsimp only at hr);obtain ⟨JA,rfl⟩:=zf ((ZV.o _ _ _ (by omega) cg.o.ilt).2 _ _ h1);obtain ⟨hb,hp,v,rfl,rfl,hV⟩:=hp;(try dsimp only at hp hV);have MV:=zh (cL.o.trans hb fun _ _ h=>h);have Up:Hd (ay (fun k=>k=E.g∨(k=gb)) w gP):=zh (cL.o.mono fun _ _ h=>h.imp_right And.right);replace hb:=hb.mono (Y:=fun k=>k=E.g∨(k=gb)) fun _ _ h=>h.imp_right And.right;have k8:=hb.size;(try simp at k8);have hw:ay (Xs E [gb]) gP iP:=zb.trans hb (fun k _ h=>by rcases h with h | h <;> simp [Xs,h]);have dS:=k1 dj hw;have kz:=k1 jQ hw;have nS:=r1 ki hw;have dy:=zh hp;have d7:=YtfmgdmeopakdaaaGreatDoor.b2 Up hw (by simp <;> omega);clear dj jQ ki cg Up hw hb hp h1 d7;cases ou with
          | none=>
           (try dsimp only at hr hV);have Db:=zh hV;clear hV;have CZ:Hd (ay (fun k=>gX E k) iP iP):=zh zb;go_wp2_with fail;obtain ⟨rx,h1,hr⟩:=ag hr;refine (kf HE.o HF.o HO.o (by omega) h1 (dy.o.alloc _)).mono ?_;rintro e kU hp;rcases rx with p | ⟨Nc,i12,b12⟩
           ·
            obtain ⟨hb,rfl⟩:=hp;cases hr;(try go_wp2_with fail);exact ⟨rfl,(MV.o.alloc _).trans hb mg,rfl⟩
           (try dsimp only at hr);obtain ⟨W9,rfl⟩:=zf ((fX HE.o.wt HF.o (by omega) dy.o.ilt).2 _ _ h1);have WJ:=pj h1;obtain ⟨hb,hp,v,rfl,Yn,c12,rfl,ae⟩:=hp;(try dsimp only at hp ae);have oC:=hb.size;(try simp at oC);have hw:ay (Xs E []) iP kU:=(zb.alloc _).trans hb xg;obtain ⟨eP,rV⟩:=dJ dS kz hw;have CR:=cW iP.heap.size hb;have sS:=r0 nS hw;have eR:=zh hp;have fc:=b0 MV hw;have p_:=b0 CZ hw;clear dS kz nS CZ dy MV hw;have Hk:=zm (lo:=(iP.heap.size+1)) ae;clear ae hb hp h1;go_wp2_with fail;refine mr (E:=E) (dC (Hk.o.keep zr fun _ h=>h) (ku (by first | omega | (simp;done) | (simp;omega))) WJ) ?_;intro nO hb hx rr hw;obtain ⟨gZ,xG,CQ⟩:=fq eP rV CR hw;have xE:=r0 sS hw;have Hj:=r0 Hk hw;have fB:=fN eR hb;have gO:=b0 fc hw;have tY:=b0 p_ hw;clear eP rV CR sS Hk p_ eR fc hw hb hx;go_wp2_with fail;have Cy:Hd (bG nO (Iv (iP.heap.size+1) kU.heap.size) (aB Nc) [.int .i64 65,.int .i64 (aB Nc).fr,.int .i64 (aB Nc).to,.string ⟨#[]⟩,.slice Yn Nc.length c12]):=zh (bG.mk_ (n:=aB Nc) Hj.o)
           refine wp_region_held_drew (S:=(fun w'=>ze w' nO.heap.size (.int .i64 65) (.int .i64 (aB Nc).fr) (.int .i64 (aB Nc).to) (.string ⟨#[]⟩) (.slice Yn Nc.length c12))) (by kernel_rfl) (by exact (aj.new' (by simp)).drew.ze) (fun ac=>?_);refine ew ?_ ac;clear ac;rintro yF hb ac;obtain ⟨hx,xi,hw⟩:=Dc (E:=E) hb;obtain ⟨iF,Hr,KB⟩:=fq gZ xG CQ hw;have CL:=cW nO.heap.size hx;have Kq:=r0 xE hw;have PK:=r0 Hj hw;have J9:=n0 Cy hw;have iU:=dX fB hb;have jt:=b0 gO hw;have yE:=b0 tY hw;clear gZ xG CQ xE Hj Cy tY fB gO hw hb hx;refine aK 4 (by kernel_rfl) (fun aF=>?_);(iterate 4 (refine zt aF ?_;try simp only [zl]));refine rb ?_;clear aF;refine wpAnyH_take (i:=5) (v:=?_) rfl (by kernel_rfl) (by kernel_rfl) (by kernel_rfl) (fun _ _ _ h=>h) (Or.inl ⟨by rfl,?_⟩) (by assumption) ?_
           rotate_left
           ·
            intro W aH;(try dsimp only [ze] at aH);(try simp only [cr,cj,ch]);go_simp;first | done | rfl
           (try simp only [zl]);refine zq 4 (fun K hK=>?_);(try simp only [cr,cj,ch]);go_simp
           go_at_call 185
           refine mr (E:=E) (dC (Kq.o.keep zr fun _ h=>h) (ku (by first | omega | (simp;done) | (simp;omega))) gQ) ?_;intro C3 hb hx GL hw;obtain ⟨oU,TH,N3,MH⟩:=jd iF Hr KB CL hw;have PP:=r0 Kq hw;have S6:=r0 PK hw;have SL:=n0 J9 hw;have ml:=fN iU hb;have nv:=b0 jt hw;have Oj:=b0 yE hw;clear iF Hr KB CL Kq PK J9 yE iU jt hw hb hx;refine hK.out _ _ (by exact MH.o.ze) (fun ac=>?_);clear hK K;(try simp only [zl]);have SY:Hd (bG C3 (Iv w1.heap.size w2.heap.size) (aB l2) [.int .i64 65,.int .i64 (aB l2).fr,.int .i64 (aB l2).to,.string ⟨#[]⟩,.slice (some ⟨lg,jW,none⟩) l2.length c2]):=zh (bG.mk_ (n:=aB l2) PP.o);refine zq 6 (fun K hK=>?_);(try simp only [cr,cj,ch]);go_simp;refine hK.out _ _ (by exact (MH.o.alloc _).ze) (fun ac=>?_);clear hK K;(try simp only [zl]);refine zq 7 (fun K hK=>?_);(try simp only [cr,cj,ch]);go_simp
           go_at_call 62
           refine eO (E:=E) (ak HE.o (ml.o.alloc _) (by omega)) ?_;intro On hb hx Jn hw;obtain ⟨rW,Kt16,Knn16,TB⟩:=jd oU TH N3 MH hw;have KF:=cW C3.heap.size hx;have Nl16:=r0 PP hw;have Nq16:=r0 S6 hw;have XD:=n0 SL hw;have XJ:=n0 SY hw;have wG:=dX ml hb;have xM:=b0 nv hw;have Uw:=b0 Oj hw;clear oU TH N3 MH PP S6 SL SY Oj ml nv hw hb hx;refine hK.out _ _ (by exact TB.o.ze) (fun ac=>?_);clear hK K;(try simp only [zl]);obtain ⟨di,dh,de,dd,dc,db,da⟩:=rW.o.cells5;refine zq 8 (fun K hK=>?_);(try simp only [cr,cj,ch]);go_simp;refine hK.out _ _ (by exact (TB.o.f5).ze) (fun ac=>?_);clear hK K;(try simp only [zl]);clear di dh de dd dc db da;refine wpAnyH_done (by kernel_rfl) ?_ _;go_wp2_with fail
           replace hr:=bv hr;obtain rfl:=ar hr;exact am (r:=w.heap.size) results180 (by rfl) rW.o.p5 (by rfl) ⟨xM.o.s5,wG.o.f6,_,rfl,⟨oz ⟨_,_,rfl,aJ (n:=2) KF.o.f5 (aC.cons_ (zv (E:=E) XJ) (aC.one (zv (E:=E) XD))) rfl (by decide) (⟨by omega,by simp <;> omega⟩)⟩,Db.o _ ((Lc Uw.o).set5 (by first | exact .inr (.inr rfl) | exact .inl (by omega)) _ _ _ _ _)⟩⟩
          | some u=>
           (try dsimp only at hr hV);replace hr:=ar hr;subst hr;have HV:=zh hV;clear hV;obtain ⟨di,dh,de,dd,dc,db,da⟩:=dS.o.cells5;go_wp2_with fail;exact am (r:=w.heap.size) results180 (by rfl) ((dS.o.p5).alloc _) (by rfl) ⟨((MV.o.s5).alloc _),((dy.o.f6).alloc _),_,rfl,⟨rfl,HV.o _ ((zb.set5 (.inr (.inr rfl)) _ _ _ _ _).alloc _)⟩⟩
         ·
          rw [if_neg (fun e=>hq e.2)] at hr;replace hq:=Bool.eq_false_iff.2 hq;refine eO (E:=E) (qH [⟨#[58,61]⟩] HE d6 hq) ?_;intro gP hb hx kw hw;obtain ⟨dj,jQ⟩:=dJ fA uL hw;have ki:=r0 py hw;have cg:=dX d6 hb;have cL:=b0 eG hw;have kl:=b0 pG hw;clear fA uL py pG d6 eG hw hb hx;(try clear hq);clear hn;rw [if_pos iO.o] at hr;obtain ⟨LA,lc,vz,tC⟩:=ki.o.hd3 gQ H8.o;have CK:Hd (bG gP (Iv w1.heap.size w2.heap.size) ea [.int .i64 ea.k,.int .i64 ea.fr,.int .i64 ea.to,.string ea.tx,.slice LA ea.ks.length lc]):=zh tC;have gn:Hd (HC gP (Iv w1.heap.size w2.heap.size) lg jW ea LA lc):=zh vz;clear tC vz;obtain ⟨Ja,r8,C6,wL,wK,C5⟩:=gn.o;(have ya:lg<gP.heap.size:=by have h8:=Ja.2;omega);go_wp2_with fail;refine eO (E:=E) (ak HE.o (cg.o.alloc _) (by omega)) ?_;intro iP hb hx k8 hw;obtain ⟨dS,kz⟩:=dJ dj jQ hw;have yB:=cW gP.heap.size hx;have nS:=r0 ki hw;have XU:=n0 CK hw;have E5:Hd (HC iP (Iv w1.heap.size w2.heap.size) lg jW ea LA lc):=zh (gn.o.keep (jF hw (by omega) (by omega) (by simp <;> omega)) fun _ h=>h);have dy:=dX cg hb;have d7:=b0 cL hw;have qc:=b0 kl hw;clear r8 C6 wL wK C5 Ja dj jQ ki CK gn kl cg cL hw hb hx;obtain ⟨di,dh,de,dd,dc,db,da⟩:=dS.o.cells5;go_wp2_with fail;replace hr:=bv hr;obtain rfl:=ar hr
          exact am (r:=w.heap.size) results180 (by rfl) dS.o.p5 (by rfl) ⟨d7.o.s5,dy.o.f6,_,rfl,⟨oz ⟨_,_,rfl,aJ (n:=1) yB.o.f5 (aC.one (zv (E:=E) XU)) rfl (by decide) (⟨by omega,by simp <;> omega⟩)⟩,HI.o _ ((Lc qc.o).set5 (by first | exact .inr (.inr rfl) | exact .inl (by omega)) _ _ _ _ _)⟩⟩
        ·
         rw [if_neg (fun e=>hn e.1)] at hr;rw [Bool.eq_false_iff.2 hn];(try clear hq);clear hn;rw [if_pos iO.o] at hr;obtain ⟨LA,lc,vz,tC⟩:=py.o.hd3 gQ H8.o;have NY:Hd (bG w9 (Iv w1.heap.size w2.heap.size) ea [.int .i64 ea.k,.int .i64 ea.fr,.int .i64 ea.to,.string ea.tx,.slice LA ea.ks.length lc]):=zh tC;have oc:Hd (HC w9 (Iv w1.heap.size w2.heap.size) lg jW ea LA lc):=zh vz;clear tC vz;obtain ⟨Ja,r8,C6,wL,wK,C5⟩:=oc.o;(have ya:lg<w9.heap.size:=by have h8:=Ja.2;omega);go_wp2_with fail;refine eO (E:=E) (ak HE.o (d6.o.alloc _) (by omega)) ?_;intro gP hb hx kw hw;obtain ⟨dj,jQ⟩:=dJ fA uL hw;have p7:=cW w9.heap.size hx;have ki:=r0 py hw;have CK:=n0 NY hw;have gn:Hd (HC gP (Iv w1.heap.size w2.heap.size) lg jW ea LA lc):=zh (oc.o.keep (jF hw (by omega) (by omega) (by simp <;> omega)) fun _ h=>h);have cg:=dX d6 hb;have cL:=b0 eG hw;have kl:=b0 pG hw;clear r8 C6 wL wK C5 Ja fA uL py NY oc pG d6 eG hw hb hx;obtain ⟨di,dh,de,dd,dc,db,da⟩:=dj.o.cells5;go_wp2_with fail;replace hr:=bv hr;obtain rfl:=ar hr;exact am (r:=w.heap.size) results180 (by rfl) dj.o.p5 (by rfl) ⟨cL.o.s5,cg.o.f6,_,rfl,⟨oz ⟨_,_,rfl,aJ (n:=1) p7.o.f5 (aC.one (zv (E:=E) CK)) rfl (by decide) (⟨by omega,by simp <;> omega⟩)⟩,HI.o _ ((Lc kl.o).set5 (by first | exact .inr (.inr rfl) | exact .inl (by omega)) _ _ _ _ _)⟩⟩
     ·
      (have kB:((l2.length:Int) == 1)=false:=by simpa using (by omega:¬ (l2.length:Int)=1));have D9:decide (l2.length=1)=false:=decide_eq_false kx;have iO:=zh kx;clear kx;rw [if_neg (fun e=>iO.o e.1)] at hr;rw [if_neg (fun e=>iO.o e.1)] at hr;go_wp2_with fail;refine mr (E:=E) (tv (wS.o.keep zr fun _ h=>h) (ku (by first | omega | (simp;done) | (simp;omega)))) ?_;intro w7 hb hx fz hw;obtain ⟨cQ,kj⟩:=dJ cJ gR hw;have ui:=r0 wS hw;have bR:=fN bC hb;have bf:=b0 aR hw;have nW:=b0 sY hw;clear cJ gR wS sY bC aR hw hb hx;by_cases hn:iB l2=true
      ·
       rw [hn];go_wp2_with fail;by_cases hq:oneOf (E.tok i2) [⟨#[58,61]⟩]=true
       ·
        rw [if_pos (⟨hn,hq⟩)] at hr;replace hr:=cy hr;refine qd (qG [⟨#[58,61]⟩] HE bR hq) ?_;intro w8 hp hb hx lz hw;obtain ⟨ek,tT⟩:=dJ cQ kj hw;have sR:=r0 ui hw;have dr:=zh hp;have dG:=b0 bf hw;have r7:=b0 nW hw;clear cQ kj ui nW bR bf hw hb hx hp hq hn;go_wp2_with fail;obtain ⟨rx,h1,hr⟩:=ag hr;refine (Z9.o _ (Iv w1.heap.size w2.heap.size) _ _ _ _ _ _ (by omega) (by first | omega | (simp;omega)) (fun k hk=>⟨by have:=hk.2;first | omega | (simp;omega),by have:=hk.1;omega,by have:=hk.1;omega⟩) (sR.o.keep zr fun _ h=>h) h1 dr.o (HI.o _ (Lc r7.o))).mono ?_;rintro e w9 hp;rcases rx with p | ⟨ou,i9,b9⟩
        ·
         obtain ⟨hb,rfl⟩:=hp;cases hr;(try go_wp2_with fail);exact ⟨rfl,dG.o.trans hb fun _ _ h=>h,rfl⟩
        (try dsimp only at hr);obtain ⟨RI,rfl⟩:=zf ((ZV.o _ _ _ (by omega) dr.o.ilt).2 _ _ h1);obtain ⟨hb,hp,v,rfl,rfl,hV⟩:=hp;(try dsimp only at hp hV);have MV:=zh (dG.o.trans hb fun _ _ h=>h);have Up:Hd (ay (fun k=>k=E.g∨(k=gb)) w w8):=zh (dG.o.mono fun _ _ h=>h.imp_right And.right);replace hb:=hb.mono (Y:=fun k=>k=E.g∨(k=gb)) fun _ _ h=>h.imp_right And.right;have nY:=hb.size;(try simp at nY);have hw:ay (Xs E [gb]) w8 w9:=zb.trans hb (fun k _ h=>by rcases h with h | h <;> simp [Xs,h]);have fA:=k1 ek hw;have uL:=k1 tT hw;have py:=r1 sR hw;have d6:=zh hp;have eG:=YtfmgdmeopakdaaaGreatDoor.b2 Up hw (by simp <;> omega);clear ek tT sR dr Up hw hb hp h1 eG;cases ou with
        | none=>
         (try dsimp only at hr hV);have Db:=zh hV;clear hV;have CZ:Hd (ay (fun k=>gX E k) w9 w9):=zh zb;go_wp2_with fail;obtain ⟨rx,h1,hr⟩:=ag hr;refine (kf HE.o HF.o HO.o (by omega) h1 (d6.o.alloc _)).mono ?_;rintro e gP hp;rcases rx with p | ⟨l10,Qp,NE⟩
         ·
          obtain ⟨hb,rfl⟩:=hp;cases hr;(try go_wp2_with fail);exact ⟨rfl,(MV.o.alloc _).trans hb mg,rfl⟩
         (try dsimp only at hr);obtain ⟨L1,rfl⟩:=zf ((fX HE.o.wt HF.o (by omega) d6.o.ilt).2 _ _ h1);have WJ:=pj h1;obtain ⟨hb,hp,v,rfl,Ol,c10,rfl,ae⟩:=hp;(try dsimp only at hp ae);have kw:=hb.size;(try simp at kw);have hw:ay (Xs E []) w9 gP:=(zb.alloc _).trans hb xg;obtain ⟨dj,jQ⟩:=dJ fA uL hw;have N5:=cW w9.heap.size hb;have ki:=r0 py hw;have cg:=zh hp;have cL:=b0 MV hw;have kl:=b0 CZ hw;clear fA uL py CZ d6 MV hw;have PN:=zm (lo:=(w9.heap.size+1)) ae;clear ae hb hp h1;go_wp2_with fail;refine mr (E:=E) (dC (PN.o.keep zr fun _ h=>h) (ku (by first | omega | (simp;done) | (simp;omega))) WJ) ?_;intro iP hb hx k8 hw;obtain ⟨dS,kz,N4⟩:=fq dj jQ N5 hw;have nS:=r0 ki hw;have PL:=r0 PN hw;have dy:=fN cg hb;have d7:=b0 cL hw;have qc:=b0 kl hw;clear dj jQ N5 ki PN kl cg cL hw hb hx;go_wp2_with fail;have Aj:Hd (bG iP (Iv (w9.heap.size+1) gP.heap.size) (aB l10) [.int .i64 65,.int .i64 (aB l10).fr,.int .i64 (aB l10).to,.string ⟨#[]⟩,.slice Ol l10.length c10]):=zh (bG.mk_ (n:=aB l10) PL.o)
         refine wp_region_held_drew (S:=(fun w'=>ze w' iP.heap.size (.int .i64 65) (.int .i64 (aB l10).fr) (.int .i64 (aB l10).to) (.string ⟨#[]⟩) (.slice Ol l10.length c10))) (by kernel_rfl) (by exact (aj.new' (by simp)).drew.ze) (fun ac=>?_);refine ew ?_ ac;clear ac;rintro kU hb ac;obtain ⟨hx,oC,hw⟩:=Dc (E:=E) hb;obtain ⟨eP,rV,CR⟩:=fq dS kz N4 hw;have CM:=cW iP.heap.size hx;have sS:=r0 nS hw;have Hk:=r0 PL hw;have EZ:=n0 Aj hw;have eR:=dX dy hb;have fc:=b0 d7 hw;have p_:=b0 qc hw;clear dS kz N4 nS PL Aj qc dy d7 hw hb hx;refine aK 4 (by kernel_rfl) (fun aF=>?_);(iterate 4 (refine zt aF ?_;try simp only [zl]));refine rb ?_;clear aF;refine wpAnyH_take (i:=5) (v:=?_) rfl (by kernel_rfl) (by kernel_rfl) (by kernel_rfl) (fun _ _ _ h=>h) (Or.inl ⟨by rfl,?_⟩) (by assumption) ?_
         rotate_left
         ·
          intro W aH;(try dsimp only [ze] at aH);(try simp only [cr,cj,ch]);go_simp;first | done | rfl
         (try simp only [zl]);refine zq 4 (fun K hK=>?_);(try simp only [cr,cj,ch]);go_simp
         go_at_call 185
         refine mr (E:=E) (dC (sS.o.keep zr fun _ h=>h) (ku (by first | omega | (simp;done) | (simp;omega))) gQ) ?_;intro nO hb hx rr hw;obtain ⟨gZ,xG,CQ,Aq⟩:=jd eP rV CR CM hw;have xE:=r0 sS hw;have Hj:=r0 Hk hw;have Cy:=n0 EZ hw;have fB:=fN eR hb;have gO:=b0 fc hw;have tY:=b0 p_ hw;clear eP rV CR CM sS Hk EZ p_ eR fc hw hb hx;refine hK.out _ _ (by exact Aq.o.ze) (fun ac=>?_);clear hK K;(try simp only [zl]);have Kf:Hd (bG nO (Iv w1.heap.size w2.heap.size) (aB l2) [.int .i64 65,.int .i64 (aB l2).fr,.int .i64 (aB l2).to,.string ⟨#[]⟩,.slice (some ⟨lg,jW,none⟩) l2.length c2]):=zh (bG.mk_ (n:=aB l2) xE.o);refine zq 6 (fun K hK=>?_);(try simp only [cr,cj,ch]);go_simp;refine hK.out _ _ (by exact (Aq.o.alloc _).ze) (fun ac=>?_);clear hK K;(try simp only [zl]);refine zq 7 (fun K hK=>?_);(try simp only [cr,cj,ch]);go_simp
         go_at_call 62
         refine eO (E:=E) (ak HE.o (fB.o.alloc _) (by omega)) ?_;intro yF hb hx xi hw;obtain ⟨iF,Hr,KB,CL⟩:=jd gZ xG CQ Aq hw;have CS:=cW nO.heap.size hx;have Kq:=r0 xE hw;have PK:=r0 Hj hw;have J9:=n0 Cy hw;have PI:=n0 Kf hw;have iU:=dX fB hb;have jt:=b0 gO hw;have yE:=b0 tY hw;clear gZ xG CQ Aq xE Hj Cy Kf tY fB gO hw hb hx;refine hK.out _ _ (by exact CL.o.ze) (fun ac=>?_);clear hK K;(try simp only [zl]);obtain ⟨di,dh,de,dd,dc,db,da⟩:=iF.o.cells5;refine zq 8 (fun K hK=>?_);(try simp only [cr,cj,ch]);go_simp;refine hK.out _ _ (by exact (CL.o.f5).ze) (fun ac=>?_);clear hK K;(try simp only [zl]);clear di dh de dd dc db da;refine wpAnyH_done (by kernel_rfl) ?_ _;go_wp2_with fail
         replace hr:=bv hr;obtain rfl:=ar hr;exact am (r:=w.heap.size) results180 (by rfl) iF.o.p5 (by rfl) ⟨jt.o.s5,iU.o.f6,_,rfl,⟨oz ⟨_,_,rfl,aJ (n:=2) CS.o.f5 (aC.cons_ (zv (E:=E) PI) (aC.one (zv (E:=E) J9))) rfl (by decide) (⟨by omega,by simp <;> omega⟩)⟩,Db.o _ ((Lc yE.o).set5 (by first | exact .inr (.inr rfl) | exact .inl (by omega)) _ _ _ _ _)⟩⟩
        | some u=>
         (try dsimp only at hr hV);replace hr:=ar hr;subst hr;have HV:=zh hV;clear hV;obtain ⟨di,dh,de,dd,dc,db,da⟩:=fA.o.cells5;go_wp2_with fail;exact am (r:=w.heap.size) results180 (by rfl) ((fA.o.p5).alloc _) (by rfl) ⟨((MV.o.s5).alloc _),((d6.o.f6).alloc _),_,rfl,⟨rfl,HV.o _ ((zb.set5 (.inr (.inr rfl)) _ _ _ _ _).alloc _)⟩⟩
       ·
        rw [if_neg (fun e=>hq e.2)] at hr;replace hq:=Bool.eq_false_iff.2 hq;refine eO (E:=E) (qH [⟨#[58,61]⟩] HE bR hq) ?_;intro w8 hb hx lz hw;obtain ⟨ek,tT⟩:=dJ cQ kj hw;have sR:=r0 ui hw;have dr:=dX bR hb;have dG:=b0 bf hw;have r7:=b0 nW hw;clear cQ kj ui nW bR bf hw hb hx;(try clear hq);clear hn;rw [if_neg iO.o] at hr;go_wp2_with fail;replace hr:=d_ hr;refine (cI HE.o dr.o).mono ?_;rintro e wz ⟨rfl,hb⟩;subst hr;go_wp2_with fail;exact ⟨rfl,dG.o.then_ hb,rfl⟩
      ·
       rw [if_neg (fun e=>hn e.1)] at hr;rw [Bool.eq_false_iff.2 hn];(try clear hq);clear hn;rw [if_neg iO.o] at hr;go_wp2_with fail;replace hr:=d_ hr;refine (cI HE.o bR.o).mono ?_;rintro e wz ⟨rfl,hb⟩;subst hr;go_wp2_with fail;exact ⟨rfl,bf.o.then_ hb,rfl⟩
   case true=>
    obtain ⟨kx,hq⟩:=UP.o.1 rfl;rw [if_pos ⟨kx,hq⟩] at hr;replace hr:=cy hr;(have kB:((l2.length:Int) == 1)=true:=by rw [kx];rfl);have D9:decide (l2.length=1)=true:=decide_eq_true kx;have iO:=zh kx;clear kx UP;replace bH:Hd (PS E w5 (i2+1) b):=zh (by have h9:=bH.o;simpa using h9);clear hq;go_wp2_with fail;obtain ⟨rx,h1,hr⟩:=ag hr;refine (bZ HE.o HF.o HO.o (by omega) h1 bH.o).mono ?_;rintro e w6 hp;rcases rx with p | ⟨x6,i6,b6⟩
    ·
     obtain ⟨hb,rfl⟩:=hp;cases hr;(try go_wp2_with fail);exact ⟨rfl,a8.o.trans hb mg,rfl⟩
    (try dsimp only at hr);obtain ⟨xj,rfl⟩:=zf ((expr_fin HE.o.wt HF.o (by omega) bH.o.ilt).2 _ _ h1);obtain ⟨hb,hp,v,rfl,A6,c6,rfl,ae⟩:=hp;(try dsimp only at hp ae);obtain ⟨iK,hw⟩:=ez hb;obtain ⟨cJ,gR⟩:=dJ cN jP hw;have wS:=r0 wv hw;have bC:=zh hp;have aR:=b0 a8 hw;have sY:=b0 H_ hw;clear cN jP wv H_ bH a8 hw;have gm:=zn (lo:=w5.heap.size) ae;clear ae hb hp h1;obtain ⟨LA,lc,vz,tC⟩:=wS.o.hd3 gQ H8.o;have E3:Hd (bG w6 (Iv w1.heap.size w2.heap.size) ea [.int .i64 ea.k,.int .i64 ea.fr,.int .i64 ea.to,.string ea.tx,.slice LA ea.ks.length lc]):=zh tC;have od:Hd (HC w6 (Iv w1.heap.size w2.heap.size) lg jW ea LA lc):=zh vz;clear tC vz;go_wp2_with fail
    refine wp_region_held_drew (S:=(fun w'=>w'.cell? ⟨lg,jW,none⟩=some (.int .i64 ea.k)∧w'.cell? ⟨lg,jW+1,none⟩=some (.int .i64 ea.fr)∧w'.cell? ⟨lg,jW+2,none⟩=some (.int .i64 ea.to)∧w'.cell? ⟨lg,jW+3,none⟩=some (.string ea.tx)∧w'.cell? ⟨lg,jW+4,none⟩=some (.slice LA ea.ks.length lc)∧ze w' w6.heap.size (.int .i64 x6.k) (.int .i64 x6.fr) (.int .i64 x6.to) (.string x6.tx) (.slice A6 x6.ks.length c6))) (by kernel_rfl) (by exact ⟨(od.o.keep (zr.za _) fun _ h=>h).c0,(od.o.keep (zr.za _) fun _ h=>h).c1,(od.o.keep (zr.za _) fun _ h=>h).c2,(od.o.keep (zr.za _) fun _ h=>h).c3,(od.o.keep (zr.za _) fun _ h=>h).c4,(aj.new' (by simp)).drew.ze⟩) (fun ac=>?_);refine ew ?_ ac;clear ac;rintro w7 hb ac;obtain ⟨hx,fz,hw⟩:=Dc (E:=E) hb;obtain ⟨cQ,kj⟩:=dJ cJ gR hw;have pB:=cW w6.heap.size hx;have ui:=r0 wS hw;have ie:=n0 gm hw;have Hn:=n0 E3 hw;have oS:Hd (HC w7 (Iv w1.heap.size w2.heap.size) lg jW ea LA lc):=zh (od.o.keep (jF hw (by omega) (by omega) (by simp <;> omega)) fun _ h=>h);have bR:=dX bC hb;have bf:=b0 aR hw;have nW:=b0 sY hw;clear cJ gR wS gm E3 od sY bC aR hw hb hx;refine aK 6 (by kernel_rfl) (fun aF=>?_)
    (iterate 6 (refine zt aF ?_;try simp only [zl]));refine rb ?_;clear aF;refine zq 6 (fun K hK=>?_);(try simp only [cr,cj,ch]);go_simp;refine hK.out _ _ (by exact ⟨(oS.o.keep (zr.za _) fun _ h=>h).c0,(oS.o.keep (zr.za _) fun _ h=>h).c1,(oS.o.keep (zr.za _) fun _ h=>h).c2,(oS.o.keep (zr.za _) fun _ h=>h).c3,(oS.o.keep (zr.za _) fun _ h=>h).c4,(pB.o.alloc _).ze⟩) (fun ac=>?_);clear hK K;(try simp only [zl]);refine zq 7 (fun K hK=>?_);(try simp only [cr,cj,ch]);go_simp
    go_at_call 62
    refine eO (E:=E) (ak HE.o (bR.o.alloc _) (by omega)) ?_;intro w8 hb hx lz hw;obtain ⟨ek,tT,AH⟩:=fq cQ kj pB hw;have qD:=cW w7.heap.size hx;have sR:=r0 ui hw;have qM:=n0 ie hw;have Im:=n0 Hn hw;have kF:Hd (HC w8 (Iv w1.heap.size w2.heap.size) lg jW ea LA lc):=zh (oS.o.keep (jF hw (by omega) (by omega) (by simp <;> omega)) fun _ h=>h);have dr:=dX bR hb;have dG:=b0 bf hw;have r7:=b0 nW hw;clear cQ kj pB ui ie Hn oS nW bR bf hw hb hx;refine hK.out _ _ (by exact ⟨(kF.o.keep zr fun _ h=>h).c0,(kF.o.keep zr fun _ h=>h).c1,(kF.o.keep zr fun _ h=>h).c2,(kF.o.keep zr fun _ h=>h).c3,(kF.o.keep zr fun _ h=>h).c4,AH.o.ze⟩) (fun ac=>?_);clear hK K;(try simp only [zl]);obtain ⟨di,dh,de,dd,dc,db,da⟩:=ek.o.cells5;refine zq 8 (fun K hK=>?_);(try simp only [cr,cj,ch]);go_simp
    refine hK.out _ _ (by exact ⟨(kF.o.keep (zr.set5 (iv (by omega)) _ _ _ _ _) fun _ h=>h).c0,(kF.o.keep (zr.set5 (iv (by omega)) _ _ _ _ _) fun _ h=>h).c1,(kF.o.keep (zr.set5 (iv (by omega)) _ _ _ _ _) fun _ h=>h).c2,(kF.o.keep (zr.set5 (iv (by omega)) _ _ _ _ _) fun _ h=>h).c3,(kF.o.keep (zr.set5 (iv (by omega)) _ _ _ _ _) fun _ h=>h).c4,(AH.o.f5).ze⟩) (fun ac=>?_);clear hK K;(try simp only [zl]);clear di dh de dd dc db da;refine wpAnyH_done (by kernel_rfl) ?_ _;go_wp2_with fail;replace hr:=bv hr;obtain rfl:=ar hr;exact am (r:=w.heap.size) results180 (by rfl) ek.o.p5 (by rfl) ⟨dG.o.s5,dr.o.f6,_,rfl,⟨oz ⟨_,_,rfl,aJ (n:=2) qD.o.f5 (aC.cons_ (zv (E:=E) Im) (aC.one (zv (E:=E) qM))) rfl (by decide) (⟨by omega,by simp <;> omega⟩)⟩,HI.o _ ((Lc r7.o).set5 (by first | exact .inr (.inr rfl) | exact .inl (by omega)) _ _ _ _ _)⟩⟩
end
set_option maxRecDepth 100000
set_option maxHeartbeats 8000000
section
variable {E:Env} {G:Gr} {lo:Nat} {w:World} {i:Nat} {b:Bool}
theorem wY {fr v:Value}:Calls prog 187 #[fr,v] w fun e w'=>e = .returned (.tuple #[.agg #[.int .i64 7,.int .i64 0,.int .i64 0,.string ⟨#[]⟩,.slice none 0 0],.bool false])∧Below w.heap.size w w':=by
  go_enter func187,ntmps187;go_wp2_with fail;refine bF.mono ?_;rintro e w1 ⟨rfl,hb⟩;have hz:=hb.size;simp at hz;have KR:Hd (aj w1 w.heap.size 25 #[.int .i64 0,.int .i64 0,.int .i64 0,.string ⟨#[]⟩,.slice none 0 0]):=zh ((aj.new w _ _).below hb (by simp));obtain ⟨di,dh,de,dd,dc,db,da⟩:=KR.o.cells5;have HB:Hd (Below w.heap.size w w1):=(aG _ _).trans (hb.mono (by simp));clear hb;go_wp2_with fail;exact cG (r:=w.heap.size) (q:=false) results187 (by rfl) (by rfl) KR.o.p5 (by rfl) ⟨rfl,EU HB.o (Nat.le_refl _) _ _ _ _ _⟩
theorem Xy (w:World) (fv v:Value):(callFunc 187 (#[fv,v] ++ #[])).run prog w = .ok (.enter 187 (#[fv,v] ++ #[])) w:=by kernel_rfl
theorem u9 (hE:eH E) (hF:GF E.ts G lo) (hO:OkG E G) (dA:lo≤i) {r:Except Int ((No ⊕ Empty)×Ps)} (hr:dx E.ts G (σ:=Empty) (fun _=>pure none) (i,b)=some r) (h:PS E w i b):Calls prog 180 #[(.pointer (some ⟨E.g,0,none⟩)),.func (.func 187) #[] #[]] w (cV E eh w (fun w' x v=>lp w w' (BF x) v) r):=by
  refine (nD hE hF hO dA (ζ:=False) (gb:=E.g) (fn:=187) (cap:=#[]) (I:=fun _=>True) (VS:=fun _ _=>False) Xy h.glt (fun _ _=>trivial) (fun W S l fv v i b r hl hW hS hR ho hP _=>?_) (fun l j b _ hj=>aw (Nat.le_refl _) hj) hr h).mono ?_
  · obtain rfl:=ar ho
    show Calls _ _ #[fv,v] _ _
    refine wY.mono ?_;rintro e W' ⟨rfl,hb⟩;exact ⟨(ay.of_below hb),hP.below hb,_,rfl,rfl,fun _ _=>trivial⟩
  · rintro e w' ⟨hb,hp⟩
    refine ⟨hb.mono fun k _ hk=>hk.elim .inl fun e=>e.1.elim,?_⟩;rcases r with p | ⟨x,s⟩
    · exact hp
    · obtain ⟨h1,v,rfl,hV⟩:=hp
      refine ⟨h1,v,rfl,?_⟩;cases x with
      | inl n=>exact hV.1
      | inr u=>cases u
end
set_option maxRecDepth 100000
set_option maxHeartbeats 8000000
section
variable {E:Env} {G:Gr} {lo:Nat} {w:World} {i:Nat} {b:Bool}
theorem pd {k fr:Int} {tx:ByteArray} {ks:List No} {m:Nat} {s:Ps} {x:No ⊕ Empty} (h:(bd E.ts k fr tx ks >>= fun y=>pure (Sum.inl y)) (i,b)=some (.ok (x,s))):(BF x).k=k∧(BF x).ks=ks:=by
  replace h:=bv h;cases Option.some.inj h;exact ⟨rfl,rfl⟩
theorem gi {α β:Type} {x:PM α} {f:α→PM β} {s s2:Ps} {a2:β} (h:(x >>= f) s=some (.ok (a2,s2))):∃ a i1 b1,f a (i1,b1)=some (.ok (a2,s2)):=by
  obtain ⟨rx,h1,h2⟩:=ag h;cases rx with
  | error p=>cases h2
  | ok a=>exact ⟨a.1,a.2.1,a.2.2,h2⟩
theorem Bc {s:Ps} {x:No ⊕ Empty} (h:dx E.ts G (σ:=Empty) (fun _=>pure none) (i,b)=some (.ok (x,s))) (hk:(BF x).k=61):(BF x).ks≠[]:=by
  unfold dx at h;replace h:=eu h;obtain ⟨l,i3,b3,h⟩:=gi h;replace h:=bW h;(try dsimp only at h);by_cases c1:l.length=1∧oneOf (E.tok i3) [⟨#[60,45]⟩]=true
  · rw [if_pos c1] at h
    replace h:=cy h;obtain ⟨a,i4,b4,h⟩:=gi h;have:=(pd (m:=0) h).1;rw [this] at hk;exact absurd hk (by decide)
  rw [if_neg c1] at h;by_cases c2:oneOf (E.tok i3) [⟨#[61]⟩]=true
  · rw [if_pos c2] at h
    replace h:=cy h;obtain ⟨a,i4,b4,h⟩:=gi h;obtain ⟨a,i4,b4,h⟩:=gi h;have:=(pd (m:=0) h).1;rw [this] at hk;exact absurd hk (by decide)
  rw [if_neg c2] at h;by_cases c3:l.length=1∧oneOf (E.tok i3) [⟨#[43,61]⟩,⟨#[45,61]⟩,⟨#[42,61]⟩,⟨#[47,61]⟩,⟨#[37,61]⟩]=true
  · rw [if_pos c3] at h
    replace h:=cy h;obtain ⟨a,i4,b4,h⟩:=gi h;have:=(pd (m:=0) h).1;rw [this] at hk;exact absurd hk (by decide)
  rw [if_neg c3] at h;by_cases c4:l.length=1∧oneOf (E.tok i3) [⟨#[43,43]⟩,⟨#[45,45]⟩]=true
  · rw [if_pos c4] at h
    replace h:=cy h;have:=(pd (m:=0) h).1;rw [this] at hk;exact absurd hk (by decide)
  rw [if_neg c4] at h;by_cases c5:iB l=true∧oneOf (E.tok i3) [⟨#[58,61]⟩]=true
  · rw [if_pos c5] at h
    replace h:=cy h;replace h:=bJ h;(try dsimp only at h);obtain ⟨a,i4,b4,h⟩:=gi h;have:=(pd (m:=0) h).1;rw [this] at hk;exact absurd hk (by decide)
  rw [if_neg c5] at h;by_cases c6:l.length=1
  · rw [if_pos c6] at h
    rw [(pd (m:=0) h).2];simp
  · rw [if_neg c6] at h
    cases d_ h
theorem Gn {s:Ps} {n:No} (h:gg E.ts G (i,b)=some (.ok (n,s))) (hk:n.k=61):n.ks≠[]:=by
  unfold gg at h;obtain ⟨rx,h1,h2⟩:=ag h;cases rx with
  | error p=>cases h2
  | ok a=>
    obtain ⟨x,i2,b2⟩:=a;cases Option.some.inj h2;exact Bc h1 hk
theorem mX (h:PS E w i b) {n:Nat} {first cap args:Array Value} (ha:first ++ cap=args) (BO:∀ w,(callFunc n args).run prog w = .ok (.enter n args) w) {R1 R:Ending→World→Prop}
    (hc:Calls prog n args (w.setCell ⟨E.g,2,none⟩ (.bool true)) R1) (hR:∀ e w2,R1 e w2→(∃ c,e = .panicked c∧R e w2)∨(e = .returned (.tuple #[])∧∃ j c,PS E w2 j c∧R (.returned (.tuple #[])) (w2.setCell ⟨E.g,2,none⟩ (.bool b)))) :
    Calls prog 176 #[(.pointer (some ⟨E.g,0,none⟩)),.func (.func n) first cap] w R:=by
  subst ha;obtain ⟨q0,q1,q2,qf,ql⟩:=h.cells;have HR:=zh hR;have HC:=zh hc;clear hR hc h q0 q1;go_enter func176,ntmps176;go_wp2_with fail;refine HC.o.mono ?_;intro e w2 he;rcases HR.o e w2 he with ⟨c,rfl,hr⟩ | ⟨rfl,j,c,hp,hr⟩
  · go_wp2_with fail
    exact ⟨rfl,hr⟩
  · obtain ⟨z0,z1,z2,zf,zl⟩:=hp.cells
    have HH:=zh hr;clear hr hp he;go_wp2_with fail
    go_end0
    exact HH.o
theorem gT (hE:eH E) (hF:GF E.ts G lo) (hO:OkG E G) (dA:lo≤i) {r:Except Int (No×Ps)} (hr:gg E.ts G (i,b)=some r) (h:PS E w i b):Calls prog 171 #[(.pointer (some ⟨E.g,0,none⟩))] w (cV E eh w (lp w) r):=by
  have fU:=h.glt;have ic:=h.lt;have iS:=hE.len;have eY:=h.ilt;have HP:=zh h;have HE:=zh hE;have cT:Hd (ay (fun k=>gX E k) w w):=zh zb;have HF:=zh hF;have HO:=zh hO;clear hF hO;clear h hE;have iM:=aO;have iT:=aU;have jf:=aT;have iL:=aS;go_enter func171,ntmps171;unfold gg at hr;go_wp2_with fail;obtain ⟨rx,h1,hr⟩:=ag hr;refine (u9 HE.o HF.o HO.o (by omega) h1 (HP.o.alloc _)).mono ?_;rintro e w1 hp;rcases rx with p | ⟨x1,i1,b1⟩
  ·
   obtain ⟨hb,rfl⟩:=hp;cases hr;go_wp2_with fail;exact ⟨rfl,(cT.o.alloc _).trans hb mg,rfl⟩
  (try dsimp only at hr);replace hr:=ar hr;subst hr;obtain ⟨hb,hp,v,rfl,A1,c1,rfl,ae⟩:=hp;(try dsimp only at hp ae);have et:=hb.size;(try simp at et);have hw:ay (Xs E []) w w1:=(zb.alloc _).trans hb xg;have cM:=cW w.heap.size hb;have bp:=zh hp;have a7:=b0 cT hw;clear hw;have uK:Hd (aQ w1 (kE (w.alloc (.cells #[.int .i64 0,.int .i64 0,.int .i64 0,.string ⟨#[]⟩,.slice none 0 0] 25)) w1) (.slice A1 (BF x1).ks.length c1) (BF x1).ks):=zh ae;clear ae hb hp h1;obtain ⟨di,dh,de,dd,dc,db,da⟩:=cM.o.cells5;go_wp2_with fail;exact am (r:=w.heap.size) results171 (by rfl) cM.o.p5 (by rfl) ⟨a7.o.s5,bp.o.f6,_,rfl,_,_,rfl,(uK.o.keep ((aI.refl (kE (w.alloc (.cells #[.int .i64 0,.int .i64 0,.int .i64 0,.string ⟨#[]⟩,.slice none 0 0] 25)) w1) w1).set5 (by intro hk;have h1:=hk.1;(try simp at h1);omega) _ _ _ _ _) fun k hk=>⟨by have h1:=hk.1;(try simp at h1);omega,by have h2:=hk.2;first | omega | (simp;omega)⟩)⟩
end
set_option maxRecDepth 100000
set_option maxHeartbeats 8000000
section
variable {E:Env} {G:Gr} {lo:Nat} {w:World} {i:Nat} {b:Bool}
theorem xz (hE:eH E) (hF:GF E.ts G lo) (hO:OkG E G) (dA:lo≤i) (wN:1≤i) {pb fb cb:Nat} (rv:pb≠E.g) (hfg:fb≠E.g) (Ig:cb≠E.g) (uc:pb≠E.a) (hfa:fb≠E.a) (K9:cb≠E.a) (hpf:pb≠fb) (hpc:pb≠cb) (hfc:fb≠cb) {r:Except Int ((No×No)×Ps)} (hr:jX E.ts G (i,b)=some r) (h:PS E w i b)
    (hp:aj w pb 49 #[(.pointer (some ⟨E.g,0,none⟩))]) (hf:aj w fb 25 #[.int .i64 7,.int .i64 0,.int .i64 0,.string ⟨#[]⟩,.slice none 0 0]) (hc:aj w cb 25 #[.int .i64 7,.int .i64 0,.int .i64 0,.string ⟨#[]⟩,.slice none 0 0]) :
    Calls prog 177 #[.pointer (some ⟨pb,0,none⟩),.pointer (some ⟨fb,0,none⟩),.pointer (some ⟨cb,0,none⟩)] w (cV E (fun k=>k=fb∨k=cb) w (fun w' x v=>v = .tuple #[]∧∃ Af cf Ac cc,aj w' fb 25 #[.int .i64 x.1.k,.int .i64 x.1.fr,.int .i64 x.1.to,.string x.1.tx,.slice Af x.1.ks.length cf]∧aj w' cb 25 #[.int .i64 x.2.k,.int .i64 x.2.fr,.int .i64 x.2.to,.string x.2.tx,.slice Ac x.2.ks.length cc]∧aQ w' (kE w w') (.slice Af x.1.ks.length cf) x.1.ks∧aQ w' (kE w w') (.slice Ac x.2.ks.length cc) x.2.ks) r):=by
  have fU:=h.glt;have ic:=h.lt;have iS:=hE.len;have eY:=h.ilt;have AD:=hp.lt;have L4:=hf.lt;have FP:=hc.lt;have HP:=zh h;have HE:=zh hE;have HF:=zh hF;have HO:=zh hO;have lx:=zh hp;have TP:=zh hf;have TQ:=zh hc;have cT:Hd (ay (fun k=>k=E.g∨(k=fb∨k=cb)) w w):=zh zb;clear h hE hF hO hp hf hc;have iM:=aO;have iT:=aU;have jf:=aT;have iL:=aS;go_enter func177,ntmps177;unfold jX at hr;obtain ⟨bg,bi,bh⟩:=lx.o.c1;go_wp2_with fail;obtain ⟨rx,h1,hr⟩:=ag hr;refine (gT HE.o HF.o HO.o (by omega) h1 HP.o).mono ?_;rintro e w1 hp;rcases rx with p | ⟨x1,i1,b1⟩
  ·
   obtain ⟨hb,rfl⟩:=hp;cases hr;(try go_wp2_with fail);exact ⟨rfl,cT.o.trans hb mg,rfl⟩
  (try dsimp only at hr);obtain ⟨wN,rfl⟩:=zf ((fD HE.o.wt HF.o (by omega) eY).2 _ _ h1);have BM:=Gn h1;obtain ⟨hb,hp,v,rfl,A1,c1,rfl,ae⟩:=hp;(try dsimp only at hp ae);obtain ⟨et,hw⟩:=ez hb;obtain ⟨d5,QS,QT⟩:=fq lx TP TQ hw;have bp:=zh hp;have a7:=b0 cT hw;clear bg bi bh lx TP TQ hw;have wR:=zn (lo:=w.heap.size) ae;clear ae hb hp h1;replace hr:=bW hr;obtain ⟨bg,bi,bh⟩:=d5.o.c1;go_wp2_with fail;refine (bT HE.o (bp.o.alloc _)).mono ?_;rintro e w2 ⟨rfl,hb⟩;simp only [cu];obtain ⟨hx,ep,hw⟩:=Dc (E:=E) hb;obtain ⟨dU,N7,MP⟩:=fq d5 QS QT hw;have sj:=cW w1.heap.size hx;have kS:=n0 wR hw;have bn:=dX bp hb;have aE:=b0 a7 hw;clear bg bi bh d5 QS QT wR bp a7 hw hb hx;by_cases hk:(E.tok i1).k=6
  ·
   rw [if_pos hk] at hr;(have sa:((E.tok i1).k == 6)=true:=by simpa using hk);have kR:i1+1<E.ts.length:=HE.o.wt.nxt _ bn.o.ilt (by intro e;have h9:(E.tok i1).k=7:=e;rw [hk] at h9;exact absurd h9 (by decide));clear hk;replace hr:=cy hr;obtain ⟨nb,rF,rE,na,m_⟩:=bn.o.cells;obtain ⟨bg,bi,bh⟩:=dU.o.c1;go_wp2_with fail;refine wp_region_held_drew (S:=(fun w'=>ze w' w1.heap.size (.int .i64 x1.k) (.int .i64 x1.fr) (.int .i64 x1.to) (.string x1.tx) (.slice A1 x1.ks.length c1)∧w'.cell? ⟨pb,0,none⟩=some (.pointer (some ⟨E.g,0,none⟩)))) (by kernel_rfl) (by exact ⟨(sj.o.far1 (r:=E.g) (o:=1) (by omega) _).drew.ze,(((dU.o.far1 (r:=E.g) (o:=1) (by omega) _).drew.cell 0).trans rfl)⟩) (fun ac=>?_);refine ew ?_ ac;clear ac;rintro w3 hb ac;have hx:=rn (E:=E) hb;have fK:=hx.size;(try simp at fK);have hw:ay (Xs E []) w2 w3:=(zb.set_ (p:=⟨E.g,1,none⟩) (.inr (.inl rfl)) _).trans hx xg;obtain ⟨eQ,N6,N8,pD⟩:=jd dU N7 MP sj hw;have nR:=n0 kS hw;have bD:=zh ((bn.o.set1 (j:=i1+1) kR).below hb);have be:=b0 aE hw;clear nb rF rE na m_ bg bi bh dU N7 MP sj kS bn aE hw hb hx;refine aK 2 (by kernel_rfl) (fun aF=>?_);(iterate 2 (refine zt aF ?_;try simp only [zl]));refine rb ?_;clear aF kR
   refine zq 2 (fun K hK=>?_);(try simp only [cr,cj,ch]);go_simp
   go_at_call 21
   obtain ⟨rx,h1,hr⟩:=ag hr;refine (bZ HE.o HF.o HO.o (by omega) h1 bD.o).mono ?_;rintro e w4 hp;rcases rx with p | ⟨x4,i4,b4⟩
   ·
    obtain ⟨hb,rfl⟩:=hp;cases hr;(try go_wp2_with fail);exact ⟨rfl,be.o.trans hb mg,rfl⟩
   (try dsimp only at hr);obtain ⟨Ea,rfl⟩:=zf ((expr_fin HE.o.wt HF.o (by omega) bD.o.ilt).2 _ _ h1);obtain ⟨hb,hp,v,rfl,A4,c4,rfl,ae⟩:=hp;(try dsimp only at hp ae);obtain ⟨iV,hw⟩:=ez hb;obtain ⟨fC,KI,KJ,mq⟩:=jd eQ N6 N8 pD hw;have lw:=n0 nR hw;have bM:=zh hp;have bu:=b0 be hw;clear eQ N6 N8 pD nR bD be hw;have MF:=zn (lo:=w3.heap.size) ae;clear ae hb hp h1;refine hK.out _ _ (by exact ⟨mq.o.ze,((fC.o.cell 0).trans rfl)⟩) (fun ac=>?_);clear hK K;(try simp only [zl]);obtain ⟨JU,JS,JR,JQ,JP,JO,JN⟩:=KI.o.cells5;refine zq 3 (fun K hK=>?_);(try simp only [cr,cj,ch]);go_simp;refine hK.out _ _ (by exact ⟨(mq.o.f5).ze,(((fC.o.f5).cell 0).trans rfl)⟩) (fun ac=>?_);clear hK K;(try simp only [zl]);obtain ⟨Ck,Cj,Ci,Ch,Cg,Cf,Ce⟩:=KJ.o.cells5;refine zq 4 (fun K hK=>?_);(try simp only [cr,cj,ch]);go_simp
   refine hK.out _ _ (by exact ⟨((mq.o.f5).f5).ze,((((fC.o.f5).f5).cell 0).trans rfl)⟩) (fun ac=>?_);clear hK K;(try simp only [zl]);clear JU JS JR JQ JP JO JN Ck Cj Ci Ch Cg Cf Ce;refine wpAnyH_done (by kernel_rfl) ?_ _;go_wp2_with fail;replace hr:=ar hr;subst hr;exact ⟨rfl,.tuple #[],by first | rfl | (simp [results,go_sem];done) | (simp [results,Tryz.f177,go_sem];done),((bu.o.set5 (.inr (.inr (.inl rfl))) _ _ _ _ _).set5 (.inr (.inr (.inr rfl))) _ _ _ _ _),((bM.o.f6).f6),_,rfl,rfl,_,_,_,_,((KI.o.p5).f5),((KJ.o.f5).p5),(nk lw ((zr.set5 (iv (by omega)) _ _ _ _ _).set5 (iv (by omega)) _ _ _ _ _) (by omega) (by first|omega|simp<;>omega)).row_,(nk MF ((zr.set5 (iv (by omega)) _ _ _ _ _).set5 (iv (by omega)) _ _ _ _ _) (by omega) (by first|omega|simp<;>omega)).row_⟩
  ·
   rw [if_neg hk] at hr;(have sa:((E.tok i1).k == 6)=false:=by simpa using hk);clear hk;by_cases hk:x1.k=61
   ·
    rw [if_pos hk] at hr;(have fT:(x1.k != 61)=false:=by simpa using hk);have gQ:=BM hk;clear hk;obtain ⟨ea,sD⟩:∃ n,x1.ks.headD bo=n:=⟨_,rfl⟩;rw [sD] at hr;have C7:0<x1.ks.length:=List.length_pos_iff.2 gQ;obtain ⟨lg,jW,Je,D',-⟩:=kS.o.row_.head_ gQ;cases D';obtain ⟨LA,lc,vz,tC⟩:=kS.o.row_.hd3 gQ sD;obtain ⟨Ja,r8,C6,wL,wK,C5⟩:=vz;(have ya:lg<w2.heap.size:=by have h8:=Ja.2;omega);have Nh2:Hd (bG w2 (Iv w.heap.size w1.heap.size) ea [.int .i64 ea.k,.int .i64 ea.fr,.int .i64 ea.to,.string ea.tx,.slice LA ea.ks.length lc]):=zh tC;have H8:=zh sD;clear tC sD;obtain ⟨jB,jA,jz,jy,jx,jw,ju⟩:=sj.o.cells5;obtain ⟨bg,bi,bh⟩:=dU.o.c1;obtain ⟨Ck,Cj,Ci,Ch,Cg,Cf,Ce⟩:=MP.o.cells5;go_wp2_with fail;replace hr:=ar hr;subst hr;exact ⟨rfl,.tuple #[],by first | rfl | (simp [results,go_sem];done) | (simp [results,Tryz.f177,go_sem];done),(aE.o.set5 (.inr (.inr (.inr rfl))) _ _ _ _ _),bn.o.f6,_,rfl,rfl,_,_,_,_,N7.o.f5,MP.o.p5,aQ.nil_,(zv (E:=E) Nh2).row_⟩
   ·
    rw [if_neg hk] at hr;(have fT:(x1.k != 61)=true:=by simpa using hk);clear hk;obtain ⟨jB,jA,jz,jy,jx,jw,ju⟩:=sj.o.cells5;obtain ⟨bg,bi,bh⟩:=dU.o.c1;go_wp2_with fail;replace hr:=d_ hr;refine (cI HE.o bn.o).mono ?_;rintro e wz ⟨rfl,hb⟩;subst hr;go_wp2_with fail;exact ⟨rfl,aE.o.then_ hb,rfl⟩
theorem vS (args:Array Value) (w:World):(callFunc 177 args).run prog w = .ok (.enter 177 args) w:=by kernel_rfl
theorem rN (hE:eH E) (hF:GF E.ts G lo) (hO:OkG E G) (dA:lo≤i) (h0:oneOf (E.tok i) [⟨#[105,102]⟩]=true) {r:Except Int (No×Ps)} (hr:jr E.ts G (i,b)=some r) (h:PS E w i b):Calls prog 167 #[(.pointer (some ⟨E.g,0,none⟩))] w (cV E eh w (lp w) r):=by
  have fU:=h.glt;have ic:=h.lt;have iS:=hE.len;have eY:=h.ilt;have HP:=zh h;have HE:=zh hE;have cT:Hd (ay (fun k=>gX E k) w w):=zh zb;have HF:=zh hF;have HO:=zh hO;clear hF hO;clear h hE;have iM:=aO;have iT:=aU;have jf:=aT;have iL:=aS;go_enter func167,ntmps167;unfold jr at hr;replace hr:=gV hr;have kR:i+1<E.ts.length:=HE.o.wt.nxt _ eY (cF h0);go_wp2_with fail;refine (dN HE.o ((HP.o.alloc _).alloc _) kR).mono ?_;rintro e w1 ⟨rfl,hp,hb⟩;simp only [cu];obtain ⟨hx,et,hw⟩:=Uy (E:=E) hb;have d5:=fJ w.heap.size hx;have cM:=cW (w.heap.size+1) hx;have bp:=zh hp;have a7:=b0 cT hw;clear hw hb hx hp kR h0;go_wp2_with fail;refine bF.mono ?_;rintro e w2 ⟨rfl,hb⟩;obtain ⟨hx,ep,hw⟩:=nX (E:=E) hb;obtain ⟨dU,bO⟩:=dJ d5 cM hw;have bn:=fN bp hb;have aE:=b0 a7 hw;clear d5 cM bp a7 hw hb hx;go_wp2_with fail;refine bF.mono ?_;rintro e w3 ⟨rfl,hb⟩;obtain ⟨hx,fK,hw⟩:=nX (E:=E) hb;obtain ⟨eQ,cC⟩:=dJ dU bO hw;have bD:=fN bn hb;have be:=b0 aE hw;clear dU bO bn aE hw hb hx;go_wp2_with fail;refine bF.mono ?_;rintro e w4 ⟨rfl,hb⟩;obtain ⟨hx,iV,hw⟩:=nX (E:=E) hb;obtain ⟨fC,cS⟩:=dJ eQ cC hw;have bM:=fN bD hb;have bu:=b0 be hw;clear eQ cC bD be hw hb hx
  go_upto_region 3 with fail
  refine kq ?_;rintro w5 hb;have hx:=rn (E:=E) hb;have jY:=hx.size;(try simp at jY);have hw:ay (Xs E []) w4 w5:=(((zb.alloc _).alloc _).alloc _).trans hx xg;obtain ⟨fy,cN⟩:=dJ fC cS hw;have Fe:=M3 w4.heap.size hx;have yC:=fJ (w4.heap.size+1) hx;have ZK:=cW (w4.heap.size+2) hx;have bH:=zh ((((bM.o.alloc _).alloc _).alloc _).below hb);have a8:=b0 bu hw;clear fC cS bM bu hw hb hx;obtain ⟨bg,bi,bh⟩:=fy.o.c1;go_wp2_with fail;obtain ⟨ry,h0,hr⟩:=ag hr;obtain ⟨rz,hz,rfl⟩:=ff h0;clear h0;refine (mX bH.o rfl (vS _) (xz (pb:=w.heap.size) (fb:=w4.heap.size) (cb:=w4.heap.size+1) HE.o HF.o HO.o (by omega) (by omega) (by omega) (by omega) (by omega) (by omega) (by omega) (by omega) (by omega) (by omega) (by omega) hz (bH.o.set2 true) (fy.o.far1 (r:=E.g) (o:=2) (by omega) _) (Fe.o.far1 (r:=E.g) (o:=2) (by omega) _) (yC.o.far1 (r:=E.g) (o:=2) (by omega) _)) ?_);intro e w6 hA;rcases rz with p | ⟨z6,i6,b6⟩
  ·
   obtain ⟨hb,rfl⟩:=hA;refine .inl ⟨_,rfl,?_⟩;(try dsimp only at hr);subst hr;go_wp2_with fail;exact ⟨rfl,(a8.o.set_ (p:=⟨E.g,2,none⟩) (.inr (.inl rfl)) _).trans hb (fun k hk h=>by rcases h with h | h | h;exact .inl h;all_goals first | exact h.elim | exact .inr h | exact .inr (.inl h) | (exfalso;omega)),rfl⟩
  obtain ⟨hb,cq,v,rfl,rfl,Af,cf,Ac,cc,xY,Qq,pS,Ni⟩:=hA;(try dsimp only at hr cq);obtain ⟨xj,-,wO⟩:=(vw HE.o.wt HF.o (by omega) bH.o.ilt).2 _ _ hz;dsimp only at xj wO;subst b6;refine .inr ⟨rfl,i6,true,cq,?_⟩;have iK:=hb.size;(try simp at iK);have hw:ay (Xs E [w4.heap.size,w4.heap.size+1]) w5 w6:=(zb.set_ (p:=⟨E.g,2,none⟩) (.inr (.inl rfl)) _).trans hb (fun k _ h=>by rcases h with h | h | h <;> simp [Xs,h]);have fe:=k2 fy hw (by omega) (by simp <;> omega);have cJ:=k2 cN hw (by omega) (by simp <;> omega);have ZJ:=k2 ZK hw (by omega) (by simp <;> omega);have bC:=zh cq;have aR:=YtfmgdmeopakdaaaGreatDoor.b2 a8 hw (by simp <;> omega);clear bg bi bh fy cN Fe yC ZK bH a8 hw;have Fc:Hd (aj w6 w4.heap.size 25 #[.int .i64 z6.1.k,.int .i64 z6.1.fr,.int .i64 z6.1.to,.string z6.1.tx,.slice Af z6.1.ks.length cf]):=zh xY;have Tt:Hd (bG w6 (Iv w5.heap.size w6.heap.size) z6.1 [.int .i64 z6.1.k,.int .i64 z6.1.fr,.int .i64 z6.1.to,.string z6.1.tx,.slice Af z6.1.ks.length cf]):=zh (bG.mk_ (n:=z6.1) (pS.keep zr fun k hk=>⟨by have h1:=hk.1;(try simp at h1);omega,hk.2⟩));have CW:Hd (aj w6 (w4.heap.size+1) 25 #[.int .i64 z6.2.k,.int .i64 z6.2.fr,.int .i64 z6.2.to,.string z6.2.tx,.slice Ac z6.2.ks.length cc]):=zh Qq;have od:Hd (bG w6 (Iv w5.heap.size w6.heap.size) z6.2 [.int .i64 z6.2.k,.int .i64 z6.2.fr,.int .i64 z6.2.to,.string z6.2.tx,.slice Ac z6.2.ks.length cc]):=zh (bG.mk_ (n:=z6.2) (Ni.keep zr fun k hk=>⟨by have h1:=hk.1;(try simp at h1);omega,hk.2⟩));clear hb cq xY Qq pS Ni hz;obtain ⟨bg,bi,bh⟩:=fe.o.c1;go_wp2_with fail;obtain ⟨rx,h1,hr⟩:=ag hr;refine (ej HE.o HF.o HO.o (by omega) h1 (bC.o.set2 b)).mono ?_;rintro e w7 hp;rcases rx with p | ⟨x7,i7,b7⟩
  ·
   obtain ⟨hb,rfl⟩:=hp;cases hr;(try go_wp2_with fail);exact ⟨rfl,(aR.o.set_ (p:=⟨E.g,2,none⟩) (.inr (.inl rfl)) _).trans hb mg,rfl⟩
  (try dsimp only at hr);obtain ⟨vB,rfl⟩:=zf ((dH HE.o.wt HF.o (by omega) bC.o.ilt).2 _ _ h1);obtain ⟨hb,hp,v,rfl,A7,c7,rfl,ae⟩:=hp;(try dsimp only at hp ae);have fz:=hb.size;(try simp at fz);have hw:ay (Xs E []) w6 w7:=(zb.set_ (p:=⟨E.g,2,none⟩) (.inr (.inl rfl)) _).trans hb xg;obtain ⟨eb,cQ,Vj,CU,CV⟩:=uD fe cJ ZJ Fc CW hw;have QO:=n0 Tt hw;have oS:=n0 od hw;have bR:=zh hp;have bf:=b0 aR hw;clear bg bi bh fe cJ ZJ Fc CW Tt od bC aR hw;have Lg:=zn (lo:=w6.heap.size) ae;clear ae hb hp h1;obtain ⟨bg,bi,bh⟩:=eb.o.c1;go_wp2_with fail;by_cases hq:oneOf (E.tok i7) [⟨#[101,108,115,101]⟩]=true
  ·
   replace hr:=aM hr hq;(try rw [if_pos rfl] at hr);refine K4 (K2 [⟨#[101,108,115,101]⟩] HE bR hq) ?_;intro w8 hp hb hx lz hw;obtain ⟨qC,ek,QQ,AM,Av⟩:=uD eb cQ Vj CU CV hw;have Ll:=fJ w7.heap.size hx;have Ts:=n0 QO hw;have kF:=n0 oS hw;have N1:=n0 Lg hw;have dr:=zh hp;have dG:=b0 bf hw;clear bg bi bh eb cQ Vj CU CV QO oS Lg bR bf hw hb hx hp hq;replace hr:=bW hr;obtain ⟨bg,bi,bh⟩:=qC.o.c1;go_wp2_with fail;refine eO (E:=E) (bm (l:=[⟨#[105,102]⟩]) HE.o (dr.o.alloc _) (aW (n:=w8.heap.size) [⟨#[105,102]⟩] (by simp) (by simp)) (ba (by simp))) ?_;intro w9 hb hx nY hw;obtain ⟨wT,fA,TJ,Gc,Gd,N9⟩:=GJ qC ek QQ AM Av Ll hw;have QN:=n0 Ts hw;have oc:=n0 kF hw;have PQ:=n0 N1 hw;have d6:=dX dr hb;have eG:=b0 dG hw;clear bg bi bh qC ek QQ AM Av Ll Ts kF N1 dr dG hw hb hx;by_cases hq:oneOf (E.tok (i7+1)) [⟨#[105,102]⟩]=true
   ·
    rw [hq];(try rw [if_pos hq] at hr);have Nj:=zh hq;clear hq;obtain ⟨bg,bi,bh⟩:=wT.o.c1;go_wp2_with fail;obtain ⟨rx,h1,hr⟩:=ag hr;refine (HO.o.branch h1 d6.o (by omega) Nj.o).mono ?_;rintro e gP hp;rcases rx with p | ⟨uP,Qp,NE⟩
    ·
     obtain ⟨hb,rfl⟩:=hp;cases hr;(try go_wp2_with fail);exact ⟨rfl,eG.o.trans hb mg,rfl⟩
    (try dsimp only at hr);obtain ⟨L1,rfl⟩:=zf ((HF.o.branch _ _ (by omega) d6.o.ilt Nj.o).2 _ _ h1);obtain ⟨hb,hp,v,rfl,Ol,c10,rfl,ae⟩:=hp;(try dsimp only at hp ae);obtain ⟨kw,hw⟩:=ez hb;obtain ⟨pC,dj,Ht,un,uq,H6⟩:=GJ wT fA TJ Gc Gd N9 hw;have Kr:=n0 QN hw;have gn:=n0 oc hw;have Ks:=n0 PQ hw;have cg:=zh hp;have cL:=b0 eG hw;clear bg bi bh wT fA TJ Gc Gd N9 QN oc PQ d6 eG hw;have NU:=zn (lo:=w9.heap.size) ae;clear ae hb hp h1;obtain ⟨bg,bi,bh⟩:=pC.o.c1;obtain ⟨JU,JS,JR,JQ,JP,JO,JN⟩:=un.o.cells5;obtain ⟨Ck,Cj,Ci,Ch,Cg,Cf,Ce⟩:=uq.o.cells5;obtain ⟨Sx,Sw,Sv,Su,Ss,Sr,Sq⟩:=H6.o.cells5;obtain ⟨Q_,Q',Q9,Q8,Q7,Q6,Q5⟩:=Ht.o.cells5;go_wp2_with fail;refine (ak HE.o ((cg.o.f6).alloc _) (by omega)).mono ?_;rintro e iP ⟨rfl,hb⟩;have hx:=rn (E:=E) hb;have k8:=hx.size;(try simp at k8);have hw:ay (Xs E [w4.heap.size+2]) gP iP:=((zb.set5 (.inr (.inr (by simp))) _ _ _ _ _).alloc _).trans hx xg;have Kz:=k1 pC hw;have dS:=k1 dj hw;have MK:Hd (aj iP (w4.heap.size+2) 25 #[.int .i64 uP.k,.int .i64 uP.fr,.int .i64 uP.to,.string uP.tx,.slice Ol uP.ks.length c10]):=zh (((Ht.o.p5).alloc _).but hx (ng (by omega)));have H4:=k1 un hw;have H5:=k1 uq hw;have MQ:=k1 H6 hw
    have yB:=cW gP.heap.size hx;have ME:=n1 Kr hw;have E5:=n1 gn hw;have MG:=n1 Ks hw;have F7:=n1 NU hw;have dy:=zh (((cg.o.f6).alloc _).below hb);have d7:=b1 cL hw (by omega);clear bg bi bh JU JS JR JQ JP JO JN Ck Cj Ci Ch Cg Cf Ce Sx Sw Sv Su Ss Sr Sq Q_ Q' Q9 Q8 Q7 Q6 Q5 pC dj Ht un uq H6 Kr gn Ks NU cg cL hw hb hx;obtain ⟨di,dh,de,dd,dc,db,da⟩:=dS.o.cells5;go_wp2_with fail;obtain rfl:=a6 hr;exact am (r:=w.heap.size+1) results167 (by rfl) dS.o.p5 (by rfl) ⟨d7.o.s5,dy.o.f6,_,rfl,_,_,rfl,aJ (n:=4) yB.o.f5 (aC.cons_ (zv (E:=E) ME) (aC.cons_ (zv (E:=E) E5) (aC.cons_ (zv (E:=E) MG) (aC.one (zv (E:=E) F7))))) rfl (by decide) (⟨by omega,by simp <;> omega⟩)⟩
   ·
    replace hq:=Bool.eq_false_iff.2 hq;rw [hq];(try rw [if_neg (Bool.eq_false_iff.1 hq)] at hr);clear hq;obtain ⟨bg,bi,bh⟩:=wT.o.c1;go_wp2_with fail;refine eO (E:=E) (bm (l:=[⟨#[123]⟩]) HE.o (d6.o.alloc _) (aW (n:=w9.heap.size) [⟨#[123]⟩] (by simp) (by simp)) (ba (by simp))) ?_;intro gP hb hx kw hw;obtain ⟨pC,dj,Ht,un,uq,H6⟩:=GJ wT fA TJ Gc Gd N9 hw;have Kr:=n0 QN hw;have gn:=n0 oc hw;have Ks:=n0 PQ hw;have cg:=dX d6 hb;have cL:=b0 eG hw;clear bg bi bh wT fA TJ Gc Gd N9 QN oc PQ d6 eG hw hb hx;by_cases hq:oneOf (E.tok (i7+1)) [⟨#[123]⟩]=true
    ·
     rw [hq];(try rw [if_pos hq] at hr);clear hq;obtain ⟨bg,bi,bh⟩:=pC.o.c1;go_wp2_with fail;obtain ⟨rx,h1,hr⟩:=ag hr;refine (ej HE.o HF.o HO.o (by omega) h1 cg.o).mono ?_;rintro e iP hp;rcases rx with p | ⟨uO,Qo,Sz⟩
     ·
      obtain ⟨hb,rfl⟩:=hp;cases hr;(try go_wp2_with fail);exact ⟨rfl,cL.o.trans hb mg,rfl⟩
     (try dsimp only at hr);obtain ⟨JA,rfl⟩:=zf ((dH HE.o.wt HF.o (by omega) cg.o.ilt).2 _ _ h1);obtain ⟨hb,hp,v,rfl,QY,c11,rfl,ae⟩:=hp;(try dsimp only at hp ae);obtain ⟨k8,hw⟩:=ez hb;obtain ⟨Kz,dS,MK,H4,H5,MQ⟩:=GJ pC dj Ht un uq H6 hw;have ME:=n0 Kr hw;have E5:=n0 gn hw;have MG:=n0 Ks hw;have dy:=zh hp;have d7:=b0 cL hw;clear bg bi bh pC dj Ht un uq H6 Kr gn Ks cg cL hw;have F7:=zn (lo:=gP.heap.size) ae;clear ae hb hp h1;obtain ⟨bg,bi,bh⟩:=Kz.o.c1;obtain ⟨JU,JS,JR,JQ,JP,JO,JN⟩:=H4.o.cells5;obtain ⟨Ck,Cj,Ci,Ch,Cg,Cf,Ce⟩:=H5.o.cells5;obtain ⟨Sx,Sw,Sv,Su,Ss,Sr,Sq⟩:=MQ.o.cells5;obtain ⟨Q_,Q',Q9,Q8,Q7,Q6,Q5⟩:=MK.o.cells5;go_wp2_with fail;refine (ak HE.o ((dy.o.f6).alloc _) (by omega)).mono ?_;rintro e kU ⟨rfl,hb⟩;have hx:=rn (E:=E) hb;have oC:=hx.size;(try simp at oC);have hw:ay (Xs E [w4.heap.size+2]) iP kU:=((zb.set5 (.inr (.inr (by simp))) _ _ _ _ _).alloc _).trans hx xg;have Kp12:=k1 Kz hw;have eP:=k1 dS hw;have Ko12:Hd (aj kU (w4.heap.size+2) 25 #[.int .i64 uO.k,.int .i64 uO.fr,.int .i64 uO.to,.string uO.tx,.slice QY uO.ks.length c11]):=zh (((MK.o.p5).alloc _).but hx (ng (by omega)));have Kf12:=k1 H4 hw;have Kc12:=k1 H5 hw;have Kb12:=k1 MQ hw
     have tU:=cW iP.heap.size hx;have XV:=n1 ME hw;have XW:=n1 E5 hw;have XX:=n1 MG hw;have Tc:=n1 F7 hw;have eR:=zh (((dy.o.f6).alloc _).below hb);have fc:=b1 d7 hw (by omega);clear bg bi bh JU JS JR JQ JP JO JN Ck Cj Ci Ch Cg Cf Ce Sx Sw Sv Su Ss Sr Sq Q_ Q' Q9 Q8 Q7 Q6 Q5 Kz dS MK H4 H5 MQ ME E5 MG F7 dy d7 hw hb hx;obtain ⟨di,dh,de,dd,dc,db,da⟩:=eP.o.cells5;go_wp2_with fail;obtain rfl:=a6 hr;exact am (r:=w.heap.size+1) results167 (by rfl) eP.o.p5 (by rfl) ⟨fc.o.s5,eR.o.f6,_,rfl,_,_,rfl,aJ (n:=4) tU.o.f5 (aC.cons_ (zv (E:=E) XV) (aC.cons_ (zv (E:=E) XW) (aC.cons_ (zv (E:=E) XX) (aC.one (zv (E:=E) Tc))))) rfl (by decide) (⟨by omega,by simp <;> omega⟩)⟩
    ·
     replace hq:=Bool.eq_false_iff.2 hq;rw [hq];(try rw [if_neg (Bool.eq_false_iff.1 hq)] at hr);clear hq;obtain ⟨bg,bi,bh⟩:=pC.o.c1;go_wp2_with fail;replace hr:=d_ hr;refine (cI HE.o cg.o).mono ?_;rintro e wz ⟨rfl,hb⟩;subst hr;go_wp2_with fail;exact ⟨rfl,cL.o.then_ hb,rfl⟩
  ·
   replace hq:=Bool.eq_false_iff.2 hq;replace hr:=aN hr hq;(try rw [if_neg Bool.false_ne_true] at hr);refine kT (E:=E) (K3 [⟨#[101,108,115,101]⟩] HE bR hq) ?_;intro w8 hb hx lz hw;obtain ⟨qC,ek,QQ,AM,Av⟩:=uD eb cQ Vj CU CV hw;have Ll:=fJ w7.heap.size hx;have Ts:=n0 QO hw;have kF:=n0 oS hw;have N1:=n0 Lg hw;have dr:=kG bR hb;have dG:=b0 bf hw;clear bg bi bh eb cQ Vj CU CV QO oS Lg bR bf hw hb hx hq;have ZD:Hd (bG w8 (Iv w8.heap.size w8.heap.size) bo [.int .i64 7,.int .i64 0,.int .i64 0,.string ⟨#[]⟩,.slice none 0 0]):=zh (bG.mk_ (n:=bo) aQ.nil_);obtain ⟨bg,bi,bh⟩:=qC.o.c1;obtain ⟨JU,JS,JR,JQ,JP,JO,JN⟩:=AM.o.cells5;obtain ⟨Ck,Cj,Ci,Ch,Cg,Cf,Ce⟩:=Av.o.cells5;obtain ⟨Sx,Sw,Sv,Su,Ss,Sr,Sq⟩:=Ll.o.cells5;obtain ⟨Q_,Q',Q9,Q8,Q7,Q6,Q5⟩:=QQ.o.cells5;go_wp2_with fail;refine eO (E:=E) (ak HE.o (dr.o.alloc _) (by omega)) ?_;intro w9 hb hx nY hw;obtain ⟨wT,fA,TJ,Gc,Gd⟩:=uD qC ek QQ AM Av hw;have N9:=k0 Ll hw
   have P0:=cW w8.heap.size hx;have QN:=n0 Ts hw;have oc:=n0 kF hw;have PQ:=n0 N1 hw;have No9:=n0 ZD hw;have d6:=dX dr hb;have eG:=b0 dG hw;clear bg bi bh JU JS JR JQ JP JO JN Ck Cj Ci Ch Cg Cf Ce Sx Sw Sv Su Ss Sr Sq Q_ Q' Q9 Q8 Q7 Q6 Q5 qC ek QQ AM Av Ll Ts kF N1 ZD dr dG hw hb hx;obtain ⟨di,dh,de,dd,dc,db,da⟩:=fA.o.cells5;go_wp2_with fail;obtain rfl:=a6 hr;exact am (r:=w.heap.size+1) results167 (by rfl) fA.o.p5 (by rfl) ⟨eG.o.s5,d6.o.f6,_,rfl,_,_,rfl,aJ (n:=4) P0.o.f5 (aC.cons_ (zv (E:=E) QN) (aC.cons_ (zv (E:=E) oc) (aC.cons_ (zv (E:=E) PQ) (aC.one (zv (E:=E) No9))))) rfl (by decide) (⟨by omega,by simp <;> omega⟩)⟩
end
theorem Bg {P:Program} (w:World) (dT sT ty elem:TypeId) (b o xu Mm:Nat) (sp:Option Addr) (w_ LC size:Nat) (cs:List Value)
    (hu:P.underlying dT=some (.slice elem)) (hs:(P.info? elem).map (·.size)=some size) (hn:cs.length=Nat.min w_ xu * size)
    (OK:0<cs.length→∃ a,sp=some a∧∀ j v,cs[j]? = some v→w.cell? (a.add j)=some v) (hc:∀ j,j<cs.length→(w.cell? ⟨b,o+j,none⟩).isSome=true) (hf:∀ j,j<cs.length→w.frozen? ⟨b,o+j,none⟩=false) (h1:∀ v ∈ cs,v.oneCell'=true) (hz:0<size) :
    (Builtin.copy_ #[dT,sT] ty #[.slice (some ⟨b,o,none⟩) xu Mm,.slice sp w_ LC]).run P w = .ok (goInt (Nat.min w_ xu)) (w.setCells b o cs):=by
  have wM:=run_storeCells_cells (P:=P) b o cs 0 w (by simpa using hc) (by simpa using hf) h1;cases hq:P.info? elem with
  | none=>simp [hq] at hs
  | some i=>
    (have hi:i.size=size:=by simpa [hq] using hs);by_cases h0:cs.length=0
    · obtain rfl:cs=[]:=List.eq_nil_of_length_eq_zero h0
      have hm:Nat.min w_ xu=0:=by
        rcases Nat.mul_eq_zero.1 (hn.symm.trans rfl:Nat.min w_ xu * size=0) with h | h
        · exact h
        · omega
      (have hl:∀ (x:Addr),(loadCells x 0).run P w = .ok #[] w:=fun x=>by simpa using run_loadCells_list (P:=P) w x [] (by simp));cases sp <;> simp [Builtin.copy_,run_underlying hu,Builtin.lenOf,Builtin.firstCells,sizeOf,typeInfo,hq,hm,storeCells,hl,World.setCells]
    · obtain ⟨a,rfl,Re⟩:=OK (by omega)
      have hl:=run_loadCells_list (P:=P) w a cs Re;simp [Builtin.copy_,run_underlying hu,Builtin.lenOf,Builtin.firstCells,sizeOf,typeInfo,hq,hi,← hn,hl,wM]
theorem qZ (g:Nat):∀ (news:List Value) (o:Nat) (w:World) (k:Nat),k≠g→(w.setCells g o news).heap[k]? = w.heap[k]?
  | [],_,_,_,_=>rfl
  | x :: xs,o,w,k,h=>(qZ g xs (o+1) _ k h).trans (Below.heap_setCell w ⟨g,o,none⟩ x k h)
theorem setCells_size (g:Nat):∀ (news:List Value) (o:Nat) (w:World),(w.setCells g o news).heap.size=w.heap.size
  | [],_,_=>rfl
  | x :: xs,o,w=>(setCells_size g xs (o+1) _).trans (by simp [World.setCell])
theorem jU (g:Nat):∀ (news:List Value) (o:Nat) (w:World),(w.setCells g o news).os=w.os∧(w.setCells g o news).tape=w.tape∧(w.setCells g o news).output=w.output
  | [],_,_=>⟨rfl,rfl,rfl⟩
  | x :: xs,o,w=>jU g xs (o+1) _
theorem rO {g:Nat} {t:TypeId}:∀ (news pre post:List Value) (w:World),aj w g t (pre ++ post).toArray→news.length≤post.length→aj (w.setCells g pre.length news) g t (pre ++ (news ++ post.drop news.length)).toArray
  | [],pre,post,w,h,_=>by simpa [World.setCells] using h
  | x :: xs,pre,[],w,h,hl=>by simp at hl
  | x :: xs,pre,y :: ys,w,h,hl=>by
    have h2:aj (w.setCell ⟨g,pre.length,none⟩ x) g t ((pre ++ [x]) ++ ys).toArray:=by
      have:=h.set_ pre.length x
      simpa using this
    have:=rO xs (pre ++ [x]) ys _ h2 (by simpa using hl)
    simpa [World.setCells] using this
theorem uQ {P:Program} {w:World} {ops:Array Oper} {rest:List Oper} {o:Oper} {a:Act} {Q:Exit→Act→World→Prop} (RR:o.guard=none) (d s:Operand) (dT sT:TypeId)
    (ho:o.op = .call { callee:=.builtin .copy,args:=#[d,s],argTypes:=#[dT,sT] }) (elem:TypeId) (hu:P.underlying dT=some (.slice elem)) (size:Nat) (je:(P.info? elem).map (·.size)=some size) (hz:0<size)
    (g xu Mm:Nat) (sp:Option Addr) (w_ LC:Nat) (hd:a.eval d = .slice (some ⟨g,0,none⟩) xu Mm) (hs:a.eval s = .slice sp w_ LC)
    (cur:List Value) (t:TypeId) (hg:aj w g t cur.toArray) (cs:List Value) (hn:cs.length=Nat.min w_ xu * size)
    (OK:0<cs.length→∃ a,sp=some a∧∀ j v,cs[j]? = some v→w.cell? (a.add j)=some v) (Xc:cs.length≤cur.length) (h1:∀ v ∈ cs,v.oneCell'=true)
    (h:∀ W,ay (fun k=>k=g) w W→aj W g t (cs ++ cur.drop cs.length).toArray→wpList P ops Q rest (a.put o.dst (goInt (Nat.min w_ xu))) W):wpList P ops Q (o :: rest) a w:=by
  refine wpList_plain RR fun K hK=>?_
  have ON:=Bg (P:=P) w dT sT o.type elem g 0 xu Mm sp w_ LC size cs hu je hn OK
    (fun j hj=>by rw [Nat.zero_add,hg.cell j];simp;omega) (fun j _=>hg.frozen _) h1 hz
  unfold Oper.wp;simp [execOp,ho,resolve,invoke,builtin,hd,hs,ON,Result.andThen];refine hK _ _ (h _ ⟨(jU g cs 0 w).1,(jU g cs 0 w).2.1,(jU g cs 0 w).2.2,by rw [setCells_size];omega,fun k _ hk=>qZ g cs 0 w k hk⟩ ?_)
  simpa using rO cs [] cur w (by simpa using hg) Xc
section
variable {E:Env} {G:Gr} {lo:Nat} {w:World} {i:Nat} {b:Bool} {S:Nat→Prop} {v:Value} {l:List No}
def nQ (w:World) (S:Nat→Prop) (v:Value) (l:List No):Prop:=∃ base xs,base≤w.heap.size∧w.ownsRow base 25 5 v l.length xs∧(∀ k,v.ownBlock=some k→S k)∧aC w (fun k=>S k∧v.ownBlock≠some k) l xs
theorem nQ.keep {w':World} {S':Nat→Prop} (h:nQ w S v l) (hs:aI S w w') (h1:∀ b,S b→S' b) (hz:w.heap.size≤w'.heap.size:=by first | omega | (simp;done) | (simp;omega)):nQ w' S' v l:=by
  obtain ⟨base,xs,h2,h3,h4,h5⟩:=h;exact ⟨base,xs,Nat.le_trans h2 hz,bk h3 fun k hk=>hs k (h4 k hk),fun k hk=>h1 k (h4 k hk),h5.keep (fun k hk=>hs k hk.1) fun k hk=>⟨h1 k hk.1,hk.2⟩⟩
theorem nQ.row (h:nQ w S v l):aQ w S v l:=by
  obtain ⟨base,xs,h2,h3,h4,h5⟩:=h;exact ⟨xs,Row.of_own h3 h4,h5.keep zr fun k hk=>hk.1⟩
theorem Oq {xs:List Value} {n1 n2:No} {c1 c2:List Value} (h:aC w S l xs) (h1:bG w S n1 c1) (h2:bG w S n2 c2) (hl:l.length≤2):aC w S [l.getD 0 n1,l.getD 1 n2] (xs ++ (c1 ++ c2).drop xs.length):=by
  have e1:=h1.len;have e2:=h2.len
  match l,h,hl with
  | [],h,_=>
    simp only [aC] at h;subst h
    simpa using aC.cons_ h1 (aC.one h2)
  | [a],h,_=>
    simp only [aC] at h;obtain ⟨d1,d2,rfl,ha,rfl⟩:=h;have:=aC.cons_ ha (aC.one h2)
    simpa [ha.len,List.drop_append,e1,List.drop_eq_nil_of_le] using this
  | [a,d],h,_=>
    have hx:=h.len;have e:(c1 ++ c2).drop xs.length=[]:=List.drop_eq_nil_of_le (by simp [hx,e1,e2]);rw [e,List.append_nil];exact h
end
set_option maxRecDepth 100000
set_option maxHeartbeats 8000000
section
variable {E:Env} {G:Gr} {lo:Nat} {w:World} {i:Nat} {b:Bool}
def Tb (S:Nat→Prop) (w w':World) (l:List No) (v:Value):Prop:=∃ A c,v = .slice A l.length c∧nQ w' (fun k=>S k∨kE w w' k) (.slice A l.length c) l
theorem J6 (g o j:Nat):(⟨g,o,none⟩:Addr).add j=⟨g,o+j,none⟩:=by
  unfold Addr.add;by_cases h:j=0
  · subst h;rfl
  · rw [if_neg h]
theorem rc (hE:eH E) (hF:GF E.ts G lo) (hO:OkG E G) (dA:lo≤i) {l:List No} {v:Value} {S:Nat→Prop} (hS:∀ k,S k→k<w.heap.size∧k≠E.g) (hl:aQ w S v l) (kB:l.length≤2) {r:Except Int (List No×Ps)} (hr:gU E.ts G l (i,b)=some r) (h:PS E w i b) :
    Calls prog 179 #[(.pointer (some ⟨E.g,0,none⟩)),v] w (cV E eh w (Tb S w) r):=by
  obtain ⟨A0,c0,rfl⟩:=hl.form;have fU:=h.glt;have ic:=h.lt;have iS:=hE.len;have eY:=h.ilt;have HP:=zh h;have HE:=zh hE;have HF:=zh hF;have HO:=zh hO;have HS:=zh hS;have HL:=zh hl;have cT:Hd (ay (fun k=>gX E k) w w):=zh zb;clear h hE hF hO hS hl;have iM:=aO;have iT:=aU;have jf:=aT;have iL:=aS;go_enter func179,ntmps179;unfold gU at hr;go_wp2_with fail;by_cases hq:oneOf (E.tok i) [⟨#[114,97,110,103,101]⟩]=true
  case neg=>
   replace hq:=Bool.eq_false_iff.2 hq;replace hr:=aZ hr hq;subst hr;refine (ci (x:=⟨#[114,97,110,103,101]⟩) HE.o HP.o hq).mono ?_;rintro e wz ⟨rfl,hb⟩;go_wp2_with fail;exact ⟨rfl,cT.o.then_ hb,rfl⟩
  case pos=>
   replace hr:=aY hr hq;refine (bI (x:=⟨#[114,97,110,103,101]⟩) HE.o HP.o hq).mono ?_;rintro e w1 ⟨rfl,hp,hb⟩;simp only [cu];obtain ⟨hx,et,hw⟩:=AB (E:=E) hb;have bp:=zh hp;have a7:=b0 cT hw;clear hw hb hx hp hq;go_wp2_with fail;refine bF.mono ?_;rintro e w2 ⟨rfl,hb⟩;obtain ⟨hx,ep,hw⟩:=nX (E:=E) hb;have bn:=fN bp hb;have aE:=b0 a7 hw;clear bp a7 hw hb hx;have uh:=nZ w2;go_wp2_with fail;refine bF.mono ?_;rintro e w3 ⟨rfl,hb⟩;obtain ⟨hx,fK,hw⟩:=nX (E:=E) hb;have Hm:=n0 uh hw;have bD:=fN bn hb;have be:=b0 aE hw;clear uh bn aE hw hb hx;have Tf:=nZ w3
   go_upto_region 3 with fail
   refine kq ?_;rintro w4 hb;obtain ⟨hx,iV,hw⟩:=Dc (E:=E) hb;have P5:=cW w3.heap.size hx;have XR:=n0 Hm hw;have Nm24:=n0 Tf hw;have bM:=dX bD hb;have bu:=b0 be hw;clear Hm Tf bD be hw hb hx;have Ud:Hd (aQ w4 S (.slice A0 l.length c0) l):=zh (HL.o.keep (bu.o.sameOn fun k hk=>⟨(HS.o k hk).1,fun e=>by rcases e with e | e;exact (HS.o k hk).2 e;exact e⟩) fun _ h=>h);obtain ⟨xs,ae,j_⟩:=Ud.o;have Vm:=zh ae.1;have Rt:Nat.min l.length 2=l.length:=Nat.min_eq_left kB;have g_:=zh ae;have jD:=zh j_;clear ae j_;go_wp2_with (refine uQ rfl (.tmp 11) (.tmp 12) 23 23 rfl 25 rfl 5 (by kernel_rfl) (by decide) w3.heap.size 2 2 A0 l.length c0 rfl rfl [.int .i64 7,.int .i64 0,.int .i64 0,.string ⟨#[]⟩,.slice none 0 0,.int .i64 7,.int .i64 0,.int .i64 0,.string ⟨#[]⟩,.slice none 0 0] 25 P5.o xs (by rw [Rt];exact Vm.o) (fun h0=>by have h9:=Vm.o;obtain ⟨-,A9,cap9,LW,-,-,-,h4⟩:=g_.o;obtain ⟨g9,o9,rfl,-,GZ⟩:=h4 (by omega);cases LW;exact ⟨_,rfl,fun j u hu=>(J6 g9 o9 j).symm ▸ GZ j u hu⟩) (by have:=Vm.o;simp;omega) (kK jD.o) ?_);intro W G1 FR;have Wp:=G1.size;have Ng:=bu.o.size;have habl:=P5.o.lt;have Ob:Hd (PS E W (i+1) b):=zh (bM.o.same (G1.block _ (by omega) (by omega)) (G1.block _ (by omega) (by omega)) Wp);have gM:Hd (ay (fun k=>gX E k) w W):=zh ⟨G1.os.trans bu.o.os,G1.tape.trans bu.o.tape,G1.output.trans bu.o.output,by omega,fun k hk hn=>(G1.block k (by omega) (by omega)).trans (bu.o.block k hk hn)⟩
   have Yb:Hd (aC W S [l.getD 0 bo,l.getD 1 bo] (xs ++ ([.int .i64 7,.int .i64 0,.int .i64 0,.string ⟨#[]⟩,.slice none 0 0,.int .i64 7,.int .i64 0,.int .i64 0,.string ⟨#[]⟩,.slice none 0 0]:List Value).drop xs.length)):=zh (Oq (jD.o.keep (fun k hk=>G1.block k (by have:=(HS.o k hk).1;omega) (by have:=(HS.o k hk).1;omega)) fun _ h=>h) (bG.mk_ (n:=bo) aQ.nil_) (bG.mk_ (n:=bo) aQ.nil_) kB);(have FP:(xs ++ ([.int .i64 7,.int .i64 0,.int .i64 0,.string ⟨#[]⟩,.slice none 0 0,.int .i64 7,.int .i64 0,.int .i64 0,.string ⟨#[]⟩,.slice none 0 0]:List Value).drop xs.length).length=10:=by have:=Yb.o.len;simpa using this);have Iq:Hd (W.ownsRow w.heap.size 25 5 (.slice (some ⟨w3.heap.size,0,none⟩) 2 2) 2 (xs ++ ([.int .i64 7,.int .i64 0,.int .i64 0,.string ⟨#[]⟩,.slice none 0 0,.int .i64 7,.int .i64 0,.int .i64 0,.string ⟨#[]⟩,.slice none 0 0]:List Value).drop xs.length)):=zh (by have:=fO (n:=2) (size:=5) (base:=w.heap.size) FR (by omega) (by simpa using FP) (by unfold maxLen;omega);simpa using this);obtain ⟨cs,Xd⟩:∃ cs,xs ++ ([.int .i64 7,.int .i64 0,.int .i64 0,.string ⟨#[]⟩,.slice none 0 0,.int .i64 7,.int .i64 0,.int .i64 0,.string ⟨#[]⟩,.slice none 0 0]:List Value).drop xs.length=cs:=⟨_,rfl⟩;rw [Xd] at Yb FP Iq;have WW:=Ob.o.ilt;clear G1 FR Xd g_ jD Ud Vm Rt bM bu P5;obtain ⟨i0,fL,ga,f_,fZ⟩:=info_parts dO;go_wp2_with fail;obtain ⟨rx,h1,hr⟩:=ag hr;refine (bZ HE.o HF.o HO.o (by omega) h1 Ob.o).mono ?_;rintro e wy ⟨cK,jM⟩;rcases rx with p | ⟨x,i2,b2⟩
   ·
    (try dsimp only at jM hr);subst jM;subst hr;go_wp2_with fail;exact ⟨rfl,gM.o.trans cK (fun _ _ h=>h),rfl⟩
   obtain ⟨cq,v,rfl,A2,c2,rfl,ae⟩:=jM;(try dsimp only at hr cq ae);obtain rfl:=ar hr;obtain ⟨sC,rfl⟩:=zf ((expr_fin HE.o.wt HF.o (by omega) WW).2 _ _ h1);have ep:=cK.size;have bn:=zh cq;have aE:Hd (ay (fun k=>k=E.g) W wy):=zh (cK.mono fun _ _ h=>by rcases h with h | h;exact h;exact h.elim);have AO:Hd (bG wy (kE W wy) x [.int .i64 x.k,.int .i64 x.fr,.int .i64 x.to,.string x.tx,.slice A2 x.ks.length c2]):=zh (bG.mk_ (n:=x) ae);have nV:Hd (wy.ownsRow w.heap.size 25 5 (.slice (some ⟨w3.heap.size,0,none⟩) 2 2) 2 cs):=zh (bk Iq.o fun k hk=>aE.o.block k (Iq.o.lt k hk).2 (by have:=(Iq.o.lt k hk).1;omega));have MS:Hd (aC wy S [l.getD 0 bo,l.getD 1 bo] cs):=zh (Yb.o.keep (fun k hk=>aE.o.block k (by have:=(HS.o k hk).1;omega) (HS.o k hk).2) fun _ h=>h);clear cK cq ae h1;go_wp2_with (at_builtin;refine au _ rfl _ _ 23 rfl w.heap.size 25 i0 _ 5 64 underlying23 fL ga f_ fZ rfl (by omega) (.slice (some ⟨w3.heap.size,0,none⟩) 2 2) 2 cs rfl (nV.o.alloc _) (fun k=>k=wy.heap.size) (.slice (some ⟨wy.heap.size,0,none⟩) 1 1) 1 [.int .i64 x.k,.int .i64 x.fr,.int .i64 x.to,.string x.tx,.slice A2 x.ks.length c2] rfl ((aj.new wy _ _).row (n:=1) rfl (by unfold maxLen;omega) rfl) pu (by unfold maxLen;omega) (by omega) (by simp;omega) ?_);intro v' wz aD hg bN cX;obtain ⟨B3,c3,rfl⟩:=cA aD;have fK:=hg.size;simp at fK;have hold:∀ k,k<wy.heap.size→k≠w3.heap.size→wz.heap[k]? = wy.heap[k]?:=fun k hk hn=>(hg.block k (by simp;omega) (fun e=>hn (by simpa [Value.ownBlock] using e))).trans (Below.heap_alloc wy _ k hk);have bD:Hd (PS E wz i2 b):=zh (bn.o.same (hold _ (by omega) (by omega)) (hold _ (by omega) (by omega)) (by omega));have be:Hd (ay (fun k=>gX E k) w wz):=zh ⟨hg.os.trans (aE.o.os.trans gM.o.os),hg.tape.trans (aE.o.tape.trans gM.o.tape),hg.output.trans (aE.o.output.trans gM.o.output),by omega,fun k hk hn=>(hold k (by omega) (by omega)).trans ((aE.o.block k (by omega) (fun e=>hn (.inl e))).trans (gM.o.block k hk hn))⟩
   (have YI:∀ k,k<wy.heap.size→k≠w3.heap.size→(Value.slice B3 3 c3).ownBlock≠some k:=fun k hk hn e=>by rcases cX with h | h;rw [h] at e;exact hn (by simpa [Value.ownBlock] using e.symm);(rw [h] at e;simp at e;omega));have HN3:Hd (nQ wz (fun k=>S k∨kE w wz k) (.slice B3 3 c3) [l.getD 0 bo,l.getD 1 bo,x]):=zh ⟨w.heap.size,_,by omega,aD,fun k hk=>.inr (aD.lt k hk),aC.append (ts:=[l.getD 0 bo,l.getD 1 bo]) (MS.o.keep (fun k hk=>hold k (by have:=(HS.o k hk).1;omega) (by have:=(HS.o k hk).1;omega)) fun k hk=>⟨.inl hk,YI k (by have:=(HS.o k hk).1;omega) (by have:=(HS.o k hk).1;omega)⟩) (aC.one (AO.o.keep (fun k hk=>hold k hk.2 (by have:=hk.1;omega)) fun k hk=>⟨.inr ⟨by have:=hk.1;omega,by have:=hk.2;omega⟩,YI k hk.2 (by have:=hk.1;omega)⟩))⟩;clear aD hg bN cX;go_wp2_with fail;go_ret;exact ⟨be.o,bD.o,_,rfl,B3,c3,rfl,HN3.o⟩
end
set_option maxRecDepth 100000
set_option maxHeartbeats 8000000
section
variable {E:Env} {G:Gr} {lo:Nat} {w:World} {i:Nat} {b:Bool}
theorem zu (hE:eH E) (hF:GF E.ts G lo) (hO:OkG E G) (dA:lo≤i) {pb gb:Nat} (rv:pb≠E.g) (O1:gb≠E.g) (uc:pb≠E.a) (YP:gb≠E.a) (FM:pb≠gb) {l:List No} {fv v:Value} {S:Nat→Prop} (hS:∀ k,S k→k<w.heap.size∧k≠E.g∧k≠gb) (hl:aQ w S v l) {r:Except Int (Option (List No)×Ps)} (hr:mC E.ts G l (i,b)=some r) (h:PS E w i b)
    (hp:aj w pb 49 #[(.pointer (some ⟨E.g,0,none⟩))]) (hg:aj w gb 23 #[.slice none 0 0]) :
    Calls prog 181 #[fv,v,.pointer (some ⟨pb,0,none⟩),.pointer (some ⟨gb,0,none⟩)] w (cV E (fun k=>k=gb) w (fun w' x v=>v = .tuple #[.agg #[.int .i64 7,.int .i64 0,.int .i64 0,.string ⟨#[]⟩,.slice none 0 0],.bool x.isSome]∧(match x with | none=>aj w' gb 23 #[.slice none 0 0] | some u=>∃ A c,aj w' gb 23 #[.slice A u.length c]∧nQ w' (fun k=>S k∨kE w w' k) (.slice A u.length c) u)) r):=by
  obtain ⟨A0,c0,rfl⟩:=hl.form;have fU:=h.glt;have ic:=h.lt;have iS:=hE.len;have eY:=h.ilt;have AD:=hp.lt;have sE:=hg.lt;have HP:=zh h;have HE:=zh hE;have HF:=zh hF;have HO:=zh hO;have HS:=zh hS;have HL:=zh hl;have lx:=zh hp;have P4:=zh hg;have cT:Hd (ay (fun k=>k=E.g∨(k=gb)) w w):=zh zb;clear h hE hF hO hS hl hp hg;have iM:=aO;have iT:=aU;have jf:=aT;have iL:=aS;go_enter func181,ntmps181;unfold mC at hr;replace hr:=cZ hr;by_cases kB:2<l.length
  ·
   rw [if_neg (fun e=>by omega)] at hr;replace hr:=ar hr;subst hr;go_wp2_with fail;refine bF.mono ?_;rintro e w1 ⟨rfl,hb⟩;obtain ⟨hx,et,hw⟩:=Dc (E:=E) hb;obtain ⟨d5,Lk⟩:=dJ lx P4 hw;have cM:=cW w.heap.size hx;have bp:=dX HP hb;have a7:=b0 cT hw;clear lx P4 hw hb hx;obtain ⟨di,dh,de,dd,dc,db,da⟩:=cM.o.cells5;go_wp2_with fail;exact cG (r:=w.heap.size) (q:=false) results181 (by rfl) (by rfl) cM.o.p5 (by rfl) ⟨a7.o.s5,bp.o.f6,_,rfl,rfl,Lk.o.f5⟩
  ·
   obtain ⟨bg,bi,bh⟩:=lx.o.c1;go_wp2_with fail;refine kT (E:=E) (bm (l:=[⟨#[114,97,110,103,101]⟩]) HE.o ((HP.o.alloc _).alloc _) (aW (n:=w.heap.size+1) [⟨#[114,97,110,103,101]⟩] (by simp) (by simp)) (ba (by simp))) ?_;intro w1 hb hx et hw;obtain ⟨d5,Lk⟩:=dJ lx P4 hw;have cM:=fJ w.heap.size hx;have bp:=kG HP hb;have a7:=b0 cT hw;clear bg bi bh lx P4 hw hb hx;by_cases hq:oneOf (E.tok i) [⟨#[114,97,110,103,101]⟩]=true
   ·
    rw [if_pos ⟨by omega,hq⟩] at hr;rw [hq];clear hq;obtain ⟨bg,bi,bh⟩:=d5.o.c1;go_wp2_with fail;have Ud:Hd (aQ w1 S (.slice A0 l.length c0) l):=zh (HL.o.keep (a7.o.sameOn fun k hk=>⟨(HS.o k hk).1,fun e=>by have h9:=HS.o k hk;rcases e with e | e;exact h9.2.1 e;exact h9.2.2 e⟩) fun _ h=>h);obtain ⟨rx,h1,hr⟩:=ag hr;refine (rc HE.o HF.o HO.o (by omega) (fun k hk=>⟨by have h9:=(HS.o k hk).1;omega,(HS.o k hk).2.1⟩) Ud.o (by omega) h1 bp.o).mono ?_;rintro e w2 hp;rcases rx with p | ⟨u,i2,b2⟩
    ·
     obtain ⟨hb,rfl⟩:=hp;cases hr;(try go_wp2_with fail);exact ⟨rfl,a7.o.trans hb mg,rfl⟩
    (try dsimp only at hr);replace hr:=ar hr;subst hr;obtain ⟨hb,hp,v,rfl,A2,c2,rfl,ae⟩:=hp;(try dsimp only at hp ae);clear Ud;obtain ⟨ep,hw⟩:=ez hb;obtain ⟨dU,Lj,bO⟩:=fq d5 Lk cM hw;have bn:=zh hp;have aE:=b0 a7 hw;clear bg bi bh d5 Lk cM bp a7 hw;have ZB:Hd (nQ w2 (SV S (w.heap.size+1) w2.heap.size) (.slice A2 u.length c2) u):=zh (ae.keep zr fun k hk=>by rcases hk with h1 | ⟨h1,h2⟩;exact .inl h1;exact .inr ⟨by omega,h2⟩);clear ae hb hp h1;obtain ⟨nb,na,m_⟩:=Lj.o.c1;go_wp2_with fail;refine bF.mono ?_;rintro e w3 ⟨rfl,hb⟩;have hx:=rn (E:=E) hb;have fK:=hx.size;(try simp at fK);have hw:ay (Xs E [gb]) w2 w3:=(zb.set1 (.inr (.inr (by simp))) _).trans hx xg;have eQ:=k1 dU hw;have MO:Hd (aj w3 gb 23 #[.slice A2 u.length c2]):=zh ((Lj.o.put1 _).but hx (ng (by omega)));have cC:=k1 bO hw;have XF:Hd (nQ w3 (SV S (w.heap.size+1) w2.heap.size) (.slice A2 u.length c2) u):=zh (ZB.o.keep (cP hw (fun k hk=>by rcases hk with h1 | ⟨h1,h2⟩;(have h3:=HS.o _ h1;omega);omega) (fun k h1 e=>by rcases h1 with h1 | ⟨h1,h2⟩;(have h3:=HS.o _ h1;rcases e with e | e;omega;(try simp at e) <;> omega);(rcases e with e | e;omega;(try simp at e) <;> omega))) fun _ h=>h);have bD:=zh ((bn.o.far1 (by omega) (by omega) _).below hb);have be:=YtfmgdmeopakdaaaGreatDoor.b2 aE hw (by simp <;> omega);clear nb na m_ dU Lj bO ZB bn aE hw hb hx;obtain ⟨di,dh,de,dd,dc,db,da⟩:=cC.o.cells5;go_wp2_with fail;exact cG (r:=w.heap.size) (q:=true) results181 (by rfl) (by rfl) cC.o.p5 (by rfl) ⟨be.o.s5,bD.o.f6,_,rfl,rfl,_,_,MO.o.f5,(XF.o.keep ((aI.refl (SV S (w.heap.size+1) w2.heap.size) w3).set5 (by intro hk;rcases hk with h1 | ⟨h1,h2⟩;(have h3:=HS.o _ h1;omega);omega) _ _ _ _ _) fun k hk=>by rcases hk with h1 | ⟨h1,h2⟩;exact .inl h1;exact .inr ⟨by omega,by first | omega | (simp;omega)⟩)⟩
   ·
    rw [if_neg (fun e=>hq e.2)] at hr;rw [Bool.eq_false_iff.2 hq];clear hq;replace hr:=ar hr;subst hr;go_wp2_with fail;refine bF.mono ?_;rintro e w2 ⟨rfl,hb⟩;obtain ⟨hx,ep,hw⟩:=nX (E:=E) hb;obtain ⟨dU,Lj,bO⟩:=fq d5 Lk cM hw;have bn:=fN bp hb;have aE:=b0 a7 hw;clear d5 Lk cM bp a7 hw hb hx;obtain ⟨di,dh,de,dd,dc,db,da⟩:=bO.o.cells5;go_wp2_with fail;exact cG (r:=w.heap.size) (q:=false) results181 (by rfl) (by rfl) bO.o.p5 (by rfl) ⟨aE.o.s5,bn.o.f6,_,rfl,rfl,Lj.o.f5⟩
end
section
variable {E:Env} {G:Gr} {lo:Nat} {w:World} {i:Nat} {b:Bool}
theorem Xz (p g:Value) (w:World) (fv v:Value):(callFunc 181 (#[fv,v] ++ #[p,g])).run prog w = .ok (.enter 181 (#[fv,v] ++ #[p,g])) w:=by kernel_rfl
def SoV (E:Env) (gb pb:Nat) (w w':World) (x:No ⊕ List No) (v:Value):Prop:=(match x with
  | .inl n=>lp w w' n v∧aj w' gb 23 #[.slice none 0 0]
  | .inr u=>v = .agg #[.int .i64 7,.int .i64 0,.int .i64 0,.string ⟨#[]⟩,.slice none 0 0]∧∃ A c,aj w' gb 23 #[.slice A u.length c]∧nQ w' (kE w w') (.slice A u.length c) u)∧aj w' pb 49 #[(.pointer (some ⟨E.g,0,none⟩))]
theorem t8 (hE:eH E) (hF:GF E.ts G lo) (hO:OkG E G) (dA:lo≤i) {pb gb:Nat} (rv:pb≠E.g) (O1:gb≠E.g) (uc:pb≠E.a) (YP:gb≠E.a) (FM:pb≠gb) {r:Except Int ((No ⊕ List No)×Ps)} (hr:dx E.ts G (mC E.ts G) (i,b)=some r) (h:PS E w i b) (hp:aj w pb 49 #[(.pointer (some ⟨E.g,0,none⟩))]) (hg:aj w gb 23 #[.slice none 0 0]) :
    Calls prog 180 #[(.pointer (some ⟨E.g,0,none⟩)),.func (.func 181) #[] #[.pointer (some ⟨pb,0,none⟩),.pointer (some ⟨gb,0,none⟩)]] w (cV E (fun k=>k=gb) w (SoV E gb pb w) r):=by
  have sE:=hg.lt;have AD:=hp.lt;have fU:=h.glt;have far:∀ {Y:Nat→Prop} {w1 w2:World} {c:Nat} {t:TypeId} {cs:Array Value},aj w1 c t cs→c≠E.g→c<w.heap.size→ay (fun k=>k=E.g∨k=w.heap.size) w1 w2→aj w2 c t cs:=fun hk h1 h2 hb=>hk.but hb fun e=>e.elim h1 fun e=>by omega
  refine (nD hE hF hO dA (ζ:=True) (gb:=gb) (fn:=181) (cap:=#[.pointer (some ⟨pb,0,none⟩),.pointer (some ⟨gb,0,none⟩)])
    (I:=fun W=>aj W pb 49 #[(.pointer (some ⟨E.g,0,none⟩))]∧aj W gb 23 #[.slice none 0 0])
    (VS:=fun W u=>(∃ A c,aj W gb 23 #[.slice A u.length c]∧nQ W (kE w W) (.slice A u.length c) u)∧aj W pb 49 #[(.pointer (some ⟨E.g,0,none⟩))])
    (Xz _ _) sE (fun W hb=>⟨far (Y:=eh) hp rv AD hb,far (Y:=eh) hg O1 sE hb⟩) (fun W S l fv v i b r hl hW hS hR ho hP hI=>?_) (fun l j b hj Nr=>sH hE.wt hF hj Nr l) hr h).mono ?_
  · show Calls _ _ #[fv,v,.pointer (some ⟨pb,0,none⟩),.pointer (some ⟨gb,0,none⟩)] _ _
    refine (zu hE hF hO hl rv O1 uc YP FM (S:=S) (fun k hk=>by have:=hS k hk;exact ⟨this.1,this.2.1,by omega⟩) hR ho hP hI.1 hI.2).mono ?_;rintro e W' ⟨hb,Rk⟩;refine ⟨hb.mono fun k _ hk=>hk.imp_right fun e=>⟨trivial,e⟩,?_⟩;have hz:=hb.size;have YE:=hI.1.but hb fun e=>e.elim rv fun e=>FM e;rcases r with p | ⟨x,s⟩
    · exact Rk
    · obtain ⟨h1,v,rfl,hv,hV⟩:=Rk
      refine ⟨h1,v,rfl,hv,?_⟩;cases x with
      | none=>exact fun W2 cK=>⟨far (Y:=eh) YE rv AD cK,far (Y:=eh) hV O1 sE cK⟩
      | some u=>
        obtain ⟨A,c,zI,mZ⟩:=hV;refine fun W2 cK=>⟨⟨A,c,far (Y:=eh) zI O1 sE cK,mZ.keep (cK.sameOn fun k hk=>?_) (fun k hk=>?_) cK.size⟩,far (Y:=eh) YE rv AD cK⟩
        · rcases hk with hk | hk
          · have:=hS k hk
            exact ⟨by omega,fun e=>by rcases e with e | e <;> omega⟩
          · have h2:=hk.1
            have h3:=hk.2;exact ⟨h3,fun e=>by rcases e with e | e <;> omega⟩
        · have h4:=cK.size
          rcases hk with hk | hk
          · have:=hS k hk
            exact ⟨by omega,by omega⟩
          · have h2:=hk.1
            have h3:=hk.2;exact ⟨by omega,by omega⟩
  · rintro e w' ⟨hb,Rk⟩
    refine ⟨hb.mono fun k _ hk=>hk.imp_right And.right,?_⟩;rcases r with p | ⟨x,s⟩
    · exact Rk
    · obtain ⟨h1,v,rfl,hV⟩:=Rk
      refine ⟨h1,v,rfl,?_⟩;cases x with
      | inl n=>exact ⟨⟨hV.1,hV.2.2⟩,hV.2.1⟩
      | inr u=>exact ⟨⟨hV.1,hV.2.1⟩,hV.2.2⟩
end
end Go.Proofs.YtfmgdmeopakdaaaGreatDoor
