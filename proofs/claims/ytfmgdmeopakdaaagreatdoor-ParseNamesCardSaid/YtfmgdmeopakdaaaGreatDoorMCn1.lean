/- Parts of one proof. -/
import Derived.Test.YtfmgdmeopakdaaaGreatDoorMB1
import Derived.Test.YtfmgdmeopakdaaaGreatDoorMD1
import Derived.Test.YtfmgdmeopakdaaaGreatDoorME1
import Derived.Recover
import Derived.Test.YtfmgdmeopakdaaaGreatDoorMB6
import Derived.Laws.EntriesVeiled
import Derived.Test.YtfmgdmeopakdaaaGreatDoorMQ1
import Derived.Test.YtfmgdmeopakdaaaGreatDoorME2
import Derived.Test.YtfmgdmeopakdaaaGreatDoorME3
set_option linter.unusedVariables false
set_option linter.unusedSimpArgs false
namespace Go.Proofs.YtfmgdmeopakdaaaGreatDoor
open Go Go.RowKit Tryz
set_option maxRecDepth 100000
set_option maxHeartbeats 4000000
theorem Iy (v:Value) (w:World):(Instr.typeAssert (.iface 63 v) 20 63 true).run prog w = .ok (.tuple #[v,.bool true]) w:=by kernel_rfl
section
variable {w:World} {A B:Nat}
def dD:Array Value:=#[.int .i64 0,.int .i64 0,.int .i64 0,.string ⟨#[]⟩,.slice none 0 0]
def M2 (w:World) (a b:Nat) (pv:Int) (w':World):Prop:=aj w' a 25 dD∧aj w' b 27 #[.int .i64 4,.string ⟨#[]⟩,.int .i64 pv]∧ay (fun k=>k=a∨k=b) w w'
theorem Mq {a b:Nat} {pv:Int} {c0 c1 c2 c3 c4 d0 d1 d2:Value} (ha:aj w a 25 #[c0,c1,c2,c3,c4]) (hb:aj w b 27 #[d0,d1,d2]) (Ii:a≠b) :
    CallsD prog 32 #[.pointer (some ⟨a,0,none⟩),.pointer (some ⟨b,0,none⟩)] (.panicking (Cv pv)) w fun e u' w'=>
      e = .returned (.tuple #[])∧u' = .panicking [{ v:=EH pv,recovered:=true }]∧M2 w a b pv w':=by
  unfold Cv EH;refine callsD_of_wpS func32 rfl fun c₀ cs hu=>?_;apply wpS_seq;apply wpS_region;simp [wpOpsS,go_sem,recoverD,hu,ntmps32,Exit.thenS];apply wpS_seq;apply wpS_region;simp [wpOpsS,go_sem,Exit.thenS];refine wpS_cond (t:=true) (by simp [Act.eval,Array.replicate]) ?_;simp only [if_true];refine wpS_of_wp ?_;have HA:=zh ha;have HB:=zh hb;have qa0:=ha.cell 0;have qa1:=ha.cell 1;have qa2:=ha.cell 2;have qa3:=ha.cell 3;have qa4:=ha.cell 4;have Wa:=hb.cell 0;have V_:=hb.cell 1;have Q2:=hb.cell 2;simp at qa0 qa1 qa2 qa3 qa4 Wa V_ Q2;have qaf:=ha.frozen;have qbf:=hb.frozen;have qal:=ha.lt;have qbl:=hb.lt;have Ww:=Iy;simp only [Array.replicate_succ,Array.replicate_zero,List.push_toArray,UC,UB,VB,List.append_toArray,List.nil_append,List.cons_append];go_wp2_with fail;clear Ww ha hb
  go_region
  all_goals
    go_wp2_with fail;refine ⟨rfl,_,rfl,_,results_none rfl _ _ _,rfl,rfl,?_,?_,?_⟩
    · exact (((((HA.o.p5).far1 Ii _).far1 Ii _).far1 Ii _).alloc _).drew
    · exact (((((HB.o.far5 (Ne.symm Ii) _ _ _ _ _).set_ 0 _).set_ 1 _).set_ 2 _).alloc _).drew
    · exact (((((((((zb.set1 (.inr (.inl rfl)) _).set1 (.inr (.inl rfl)) _).set1 (.inr (.inl rfl)) _).set1 (.inr (.inl rfl)) _).set1 (.inr (.inl rfl)) _).set1 (.inr (.inr rfl)) _).set1 (.inr (.inr rfl)) _).set1 (.inr (.inr rfl)) _).alloc _).drew
theorem tJ {a b:Nat} :
    CallsD prog 32 #[.pointer (some ⟨a,0,none⟩),.pointer (some ⟨b,0,none⟩)] .returning w fun e u' w'=>e = .returned (.tuple #[])∧u' = .returning∧w'=w:=by
  refine callsD_of_wpS func32 rfl fun c₀ cs hu=>?_;apply wpS_seq;apply wpS_region;simp [wpOpsS,go_sem,recoverD,hu,ntmps32,Exit.thenS];apply wpS_seq;apply wpS_region;simp [wpOpsS,go_sem,Exit.thenS];refine wpS_cond (t:=false) (by simp [Act.eval,Array.replicate]) ?_;simp only [Bool.false_eq_true,if_false];refine wpS_of_wp (wp_skip ?_);cases c₀
  simp_all [bodyPostS,results,results32]
theorem y8 {W:World} {a b:Nat} {c0 c1 c2 c3 c4 d0 d1 d2 x0 x1 x2 x3 x6 x7 x8 x9 uP uO M5 K6 K5 M4 Qk VM VK VJ VG VD VC x23 x24 x25 x26 x27 x28 x29:Value} (h:aj W a 25 #[c0,c1,c2,c3,c4]) (h':aj W b 27 #[d0,d1,d2]) :
    (results Tryz.f19 #[x0,x1,x2,x3,.pointer (some ⟨a,0,none⟩),.pointer (some ⟨b,0,none⟩),x6,x7,x8,x9,uP,uO,M5,K6,K5,M4,Qk,VM,VK,VJ,VG,VD,VC,x23,x24,x25,x26,x27,x28,x29]).run prog W = .ok (.tuple #[.agg #[c0,c1,c2,c3,c4],.agg #[d0,d1,d2]]) W:=by
  have ND:=h.cell 0;have c1':=h.cell 1;have NC:=h.cell 2;have NB:=h.cell 3;have NA:=h.cell 4;have we:=h'.cell 0;have v_:=h'.cell 1;have v8:=h'.cell 2;simp at ND c1' NC NB NA we v_ v8;simp [results,results19,go_sem,ND,c1',NC,NB,NA,we,v_,v8]
def ow (x:List Tk→PM No) (s:ByteArray):Option (Except (Int×Int) No):=
  match ee s with
  | .error cp=>some (.error cp)
  | .ok ts=>match x ts (0,false) with
    | none=>none
    | some (.error p)=>some (.error (4,p))
    | some (.ok (n,_))=>some (if (200:Int)<depW n then .error (5,0) else .ok n)
def F2 (w:World) (r:Except (Int×Int) No) (e:Ending) (w':World):Prop:=
  Below w.heap.size w w'∧match r with
  | .error (c,p)=>e = .returned (.tuple #[.agg dD,.agg #[.int .i64 c,.string ⟨#[]⟩,.int .i64 p]])
  | .ok n=>∃ A c,e = .returned (.tuple #[.agg #[.int .i64 n.k,.int .i64 n.fr,.int .i64 n.to,.string n.tx,.slice A n.ks.length c],.agg #[.int .i64 0,.string ⟨#[]⟩,.int .i64 0]])∧aQ w' (kE w w') (.slice A n.ks.length c) n.ks
theorem va {s:ByteArray} {c p:Int} (h:ee s = .error (c,p)):c=2∨c=3:=by
  unfold ee at h;split at h
  · cases h;exact .inl rfl
  · cases hq:aX (s.size+1) s.data.toList 0 [] with
    | error p=>rw [hq] at h;cases h;exact .inr rfl
    | ok l=>rw [hq] at h;cases h
theorem vg {s:ByteArray} {x:List Tk→PM No} {n:Nat} {cap:Array Value} (hs:s.size≤140737488355328) (hT:Lib.Utf8Tabs 0 1 w) (h3:3≤w.heap.size) {mm:Int} (n_:w.cell? ⟨2,0,none⟩=some (.int .i64 mm))
    (BO:∀ w v,(callFunc n (#[v] ++ cap)).run prog w = .ok (.enter n (#[v] ++ cap)) w)
    (hc:∀ (E:Env) (W:World) r,eH E→Str.WT E.ts→Below w.heap.size w W→x E.ts (0,false)=some r→PS E W 0 false→Calls prog n (#[.pointer (some ⟨E.g,0,none⟩)] ++ cap) W (cV E eh W (lp W) r))
    {r:Except (Int×Int) No} (hr:ow x s=some r) :
    Calls prog 19 #[.string s,.func (.func n) #[] cap] w (F2 w r):=by
  have UV:∀ (fn:Fn) (first cap:Array Value) (w:World),(Instr.makeFunc fn first cap).run prog w = .ok (.func fn first cap) w:=fun _ _ _ _=>rfl;have HR:=zh hr;have HT:=zh hT;have Ay:=zh n_;have HC:=zh hc;clear hr hT n_ hc
  go_enter_defers func19,ntmps19
  go_wp2_with fail;have Ih:Below w.heap.size w ((w.alloc (.cells dD 25)).alloc (.cells #[.int .i64 0,.string ⟨#[]⟩,.int .i64 0] 27)):=((Below.refl _ _).alloc (Nat.le_refl _) _).alloc (by simp) _;refine (yQ hs (Utf8Tabs_below HT.o Ih) (by simp;omega) (mm:=mm) (by refine Eq.trans (Ih.cell (p:=⟨2,0,none⟩) (by show 2<_;omega)) Ay.o)).mono ?_;rintro e w1 ⟨cB,ua⟩;have kb:Hd (Below w.heap.size w w1):=zh (Ih.trans (cB.mono (by simp;omega)));have sb:Hd (aj w1 w.heap.size 25 dD):=zh ((aj.alloc (aj.new _ _ _) _).below cB (by simp;omega));have wP:Hd (aj w1 (w.heap.size+1) 27 #[.int .i64 0,.string ⟨#[]⟩,.int .i64 0]):=zh ((aj.new' (by simp)).below cB (by simp));(have Jr:w.heap.size+2≤w1.heap.size:=by have:=cB.size;simp at this;omega);(have kB:w.heap.size<w1.heap.size:=by omega);(have D9:w.heap.size+1<w1.heap.size:=by omega);have ud:=sb.o.cell 0;have D7:=sb.o.cell 1;have K8:=sb.o.cell 2;have Qx:=sb.o.cell 3;have OS:=sb.o.cell 4;have YT:=sb.o.frozen;have JE:=wP.o.cell 0;have JD:=wP.o.cell 1;have G0:=wP.o.cell 2;have YU:=wP.o.frozen;simp [dD] at ud D7 K8 Qx OS;simp at JE JD G0;have sX:=zh ua;clear Ih cB ua;obtain ⟨rs,GP⟩:∃ rs,ee s=rs:=⟨_,rfl⟩;have Qc:=zh GP;clear GP;cases rs with
  | error cp=>
    obtain ⟨c,p⟩:=cp;have h1:=sX.o;rw [Qc.o] at h1;obtain rfl:=h1;(obtain rfl:r = .error (c,p):=by have h2:=HR.o;unfold ow at h2;rw [Qc.o] at h2;exact (Option.some.inj h2).symm);have GZ:=va Qc.o;clear sX;rcases GZ with rfl | rfl
    all_goals
      go_wp2_with fail
      go_region
      all_goals
        go_wp2_with fail;refine ⟨_,y8 (((((((sb.o.far1 (by omega) _).far1 (by omega) _).far1 (by omega) _).p5).far1 (by omega) _).far1 (by omega) _).far1 (by omega) _).drew (((((((wP.o.set_ 0 _).set_ 1 _).set_ 2 _).f5).set_ 0 _).set_ 1 _).set_ 2 _).drew,?_⟩;exact ⟨(((((((((((kb.o.setCell (by simp) _).setCell (by simp) _).setCell (by simp) _).setCell (by simp) _).setCell (by simp) _).setCell (by simp) _).setCell (by simp) _).setCell (by simp) _).setCell (by simp) _).setCell (by simp) _).setCell (by simp) _).drew,rfl⟩
  | ok l=>
    have h1:=sX.o;rw [Qc.o] at h1;obtain ⟨A,c,rfl,how⟩:=h1;obtain ⟨je,GX⟩:=jK Qc.o;obtain ⟨LP,LO,C7,yb⟩:=GX.wt;clear sX GX
    have O7:l.length≤c∧∃ a,A=some ⟨a,0,none⟩∧a<w1.heap.size:=by
      obtain ⟨a,c',hv,-,h4⟩:=how.form C7;cases hv;rcases how.2 with ⟨h5,h6⟩ | ⟨g,cap',cur,hv,-,-,h6,-⟩
      · omega
      · cases hv
        exact ⟨h6,a,rfl,h4⟩
    obtain ⟨O7,a,rfl,QC⟩:=O7;have Lo:=zh how;clear how;go_wp2_with fail;obtain ⟨E,U9⟩:∃ E:Env,E=⟨w1.heap.size,a,0,c,l⟩:=⟨_,rfl⟩;(have hEg:E.g=w1.heap.size:=by rw [U9]);(have Zf:E.ts=l:=by rw [U9]);have Y_:eH E:=by subst U9;exact ⟨LP,by show l.length≤1000000;omega,O7⟩
    have Xl:PS E ((((w1.setCell ⟨w.heap.size+1,0,none⟩ (.int .i64 0)).setCell ⟨w.heap.size+1,1,none⟩ (.string ⟨#[]⟩)).setCell ⟨w.heap.size+1,2,none⟩ (.int .i64 0)).alloc (.cells #[.slice (some ⟨a,0,none⟩) l.length c,.int .i64 0,.bool false] 66)) 0 false:=by
      subst U9;refine ⟨aj.new' (by simp),fun j hj=>?_,by show a≠w1.heap.size;omega,by show a<_;simp;omega,C7⟩;have h5:=(re ((ownsRow_setCell_below (ownsRow_setCell_below (ownsRow_setCell_below Lo.o (a:=⟨w.heap.size+1,0,none⟩) (by simp) (.int .i64 0)) (a:=⟨w.heap.size+1,1,none⟩) (by simp) (.string ⟨#[]⟩)) (a:=⟨w.heap.size+1,2,none⟩) (by simp) (.int .i64 0)).alloc (.cells #[.slice (some ⟨a,0,none⟩) l.length c,.int .i64 0,.bool false] 66)) hj);have h6:ap l j=l[j]:=by have hj':j<l.length:=hj;simp [ap,hj']
      simpa [Env.tok,h6] using h5
    have FR:Below w.heap.size w ((((w1.setCell ⟨w.heap.size+1,0,none⟩ (.int .i64 0)).setCell ⟨w.heap.size+1,1,none⟩ (.string ⟨#[]⟩)).setCell ⟨w.heap.size+1,2,none⟩ (.int .i64 0)).alloc (.cells #[.slice (some ⟨a,0,none⟩) l.length c,.int .i64 0,.bool false] 66)):=(((kb.o.setCell (by simp) _).setCell (by simp) _).setCell (by simp) _).alloc (by simp;omega) _;have QE:aj ((((w1.setCell ⟨w.heap.size+1,0,none⟩ (.int .i64 0)).setCell ⟨w.heap.size+1,1,none⟩ (.string ⟨#[]⟩)).setCell ⟨w.heap.size+1,2,none⟩ (.int .i64 0)).alloc (.cells #[.slice (some ⟨a,0,none⟩) l.length c,.int .i64 0,.bool false] 66)) w.heap.size 25 dD:=(((sb.o.far1 (by omega) _).far1 (by omega) _).far1 (by omega) _).alloc _;have Xr:aj ((((w1.setCell ⟨w.heap.size+1,0,none⟩ (.int .i64 0)).setCell ⟨w.heap.size+1,1,none⟩ (.string ⟨#[]⟩)).setCell ⟨w.heap.size+1,2,none⟩ (.int .i64 0)).alloc (.cells #[.slice (some ⟨a,0,none⟩) l.length c,.int .i64 0,.bool false] 66)) (w.heap.size+1) 27 #[.int .i64 0,.string ⟨#[]⟩,.int .i64 0]:=(((wP.o.set_ 0 _).set_ 1 _).set_ 2 _).alloc _;have hWs:((((w1.setCell ⟨w.heap.size+1,0,none⟩ (.int .i64 0)).setCell ⟨w.heap.size+1,1,none⟩ (.string ⟨#[]⟩)).setCell ⟨w.heap.size+1,2,none⟩ (.int .i64 0)).alloc (.cells #[.slice (some ⟨a,0,none⟩) l.length c,.int .i64 0,.bool false] 66)).heap.size=w1.heap.size+1:=by simp
    generalize hW:((((w1.setCell ⟨w.heap.size+1,0,none⟩ (.int .i64 0)).setCell ⟨w.heap.size+1,1,none⟩ (.string ⟨#[]⟩)).setCell ⟨w.heap.size+1,2,none⟩ (.int .i64 0)).alloc (.cells #[.slice (some ⟨a,0,none⟩) l.length c,.int .i64 0,.bool false] 66))=W at Xl FR QE Xr hWs
    (try rw [hW])
    clear hW
    obtain ⟨rx,YD,GQ⟩:∃ rx,x l (0,false)=some rx∧r=(match rx with | .error p=>.error (4,p) | .ok (n,_)=>if (200:Int)<depW n then .error (5,0) else .ok n):=by
      have h2:=HR.o;unfold ow at h2;rw [Qc.o] at h2;simp only at h2;cases hx:x l (0,false) with
      | none=>rw [hx] at h2;cases h2
      | some rx=>
        rw [hx] at h2;refine ⟨rx,rfl,?_⟩;cases rx with
        | error p=>exact (Option.some.inj h2).symm
        | ok ns=>exact (Option.some.inj h2).symm
    have RQ:=HC.o E W rx Y_ (Zf ▸ LO) FR (Zf ▸ YD) Xl;rw [hEg] at RQ;refine RQ.mono ?_;rintro e w2 hp;clear RQ;have JG:=hp.1;have Lb:aj w2 w.heap.size 25 dD:=QE.but JG (fun h=>h.elim (fun h=>by omega) id);have Xu:aj w2 (w.heap.size+1) 27 #[.int .i64 0,.string ⟨#[]⟩,.int .i64 0]:=Xr.but JG (fun h=>h.elim (fun h=>by omega) id);have Xv:Below w.heap.size w w2:=FR.trans (JG.below (fun i _ h=>h.elim (fun h=>by omega) False.elim) (by omega));have hs2:=JG.size;cases rx with
    | error p=>
      obtain ⟨-,rfl⟩:=hp;simp only at GQ;subst GQ;refine leaves_cons (f:=32) (args:=#[.pointer (some ⟨w.heap.size,0,none⟩),.pointer (some ⟨w.heap.size+1,0,none⟩)]) (by simp) (by simp [go_sem]) ?_;refine (Mq Lb Xu (by omega)).mono ?_;rintro e u' w4 ⟨rfl,rfl,L3,JB,L2⟩;refine ⟨_,y8 L3 JB,?_⟩;exact ⟨Xv.trans (L2.below (fun i _ h=>by rcases h with rfl | rfl <;> omega) (by omega)),rfl⟩
    | ok ns=>
      obtain ⟨n1,s1⟩:=ns;obtain ⟨-,-,v,rfl,A',c',rfl,ae⟩:=hp;simp only at GQ;have q0:=Lb.cell 0;have q1:=Lb.cell 1;have q2:=Lb.cell 2;have q3:=Lb.cell 3;have q4:=Lb.cell 4;have qf:=Lb.frozen;have ql:=Lb.lt;simp [dD] at q0 q1 q2 q3 q4;have MS:=zh Lb;have Z6:=zh Xu;have aE:=zh Xv;have g_:=zh ae;have r5:=zh GQ;clear Lb Xu Xv ae GQ JG QE Xr FR Xl Y_ YD;go_wp2_with fail;have Xn:aj (((((w2.setCell ⟨w.heap.size,0,none⟩ (.int .i64 n1.k)).setCell ⟨w.heap.size,1,none⟩ (.int .i64 n1.fr)).setCell ⟨w.heap.size,2,none⟩ (.int .i64 n1.to)).setCell ⟨w.heap.size,3,none⟩ (.string n1.tx)).setCell ⟨w.heap.size,4,none⟩ (.slice A' n1.ks.length c')) w.heap.size 25 #[.int .i64 n1.k,.int .i64 n1.fr,.int .i64 n1.to,.string n1.tx,.slice A' n1.ks.length c']:=MS.o.p5;have Xt:aj (((((w2.setCell ⟨w.heap.size,0,none⟩ (.int .i64 n1.k)).setCell ⟨w.heap.size,1,none⟩ (.int .i64 n1.fr)).setCell ⟨w.heap.size,2,none⟩ (.int .i64 n1.to)).setCell ⟨w.heap.size,3,none⟩ (.string n1.tx)).setCell ⟨w.heap.size,4,none⟩ (.slice A' n1.ks.length c')) (w.heap.size+1) 27 #[.int .i64 0,.string ⟨#[]⟩,.int .i64 0]:=Z6.o.f5;have eF:Below w.heap.size w (((((w2.setCell ⟨w.heap.size,0,none⟩ (.int .i64 n1.k)).setCell ⟨w.heap.size,1,none⟩ (.int .i64 n1.fr)).setCell ⟨w.heap.size,2,none⟩ (.int .i64 n1.to)).setCell ⟨w.heap.size,3,none⟩ (.string n1.tx)).setCell ⟨w.heap.size,4,none⟩ (.slice A' n1.ks.length c')):=(((((aE.o.setCell (by simp) _).setCell (by simp) _).setCell (by simp) _).setCell (by simp) _).setCell (by simp) _)
      have Ij:aQ (((((w2.setCell ⟨w.heap.size,0,none⟩ (.int .i64 n1.k)).setCell ⟨w.heap.size,1,none⟩ (.int .i64 n1.fr)).setCell ⟨w.heap.size,2,none⟩ (.int .i64 n1.to)).setCell ⟨w.heap.size,3,none⟩ (.string n1.tx)).setCell ⟨w.heap.size,4,none⟩ (.slice A' n1.ks.length c')) (fun b=>w.heap.size+1<b∧b<w2.heap.size) (.slice A' n1.ks.length c') n1.ks:=g_.o.keep (fun b hb=>by
        have gQ:b≠w.heap.size:=by have:=hb.1;omega
        repeat rw [Below.heap_setCell _ _ _ b gQ]) (fun b hb=>⟨by have:=hb.1;omega,hb.2⟩)
      have hs3:(((((w2.setCell ⟨w.heap.size,0,none⟩ (.int .i64 n1.k)).setCell ⟨w.heap.size,1,none⟩ (.int .i64 n1.fr)).setCell ⟨w.heap.size,2,none⟩ (.int .i64 n1.to)).setCell ⟨w.heap.size,3,none⟩ (.string n1.tx)).setCell ⟨w.heap.size,4,none⟩ (.slice A' n1.ks.length c')).heap.size=w2.heap.size:=by simp
      generalize hW3:(((((w2.setCell ⟨w.heap.size,0,none⟩ (.int .i64 n1.k)).setCell ⟨w.heap.size,1,none⟩ (.int .i64 n1.fr)).setCell ⟨w.heap.size,2,none⟩ (.int .i64 n1.to)).setCell ⟨w.heap.size,3,none⟩ (.string n1.tx)).setCell ⟨w.heap.size,4,none⟩ (.slice A' n1.ks.length c'))=W3 at Xn Xt eF Ij hs3
      (try rw [hW3])
      clear hW3 q0 q1 q2 q3 q4 qf ql g_ MS Z6 aE;refine (Cb (n:=n1) (cs:=[.int .i64 n1.k,.int .i64 n1.fr,.int .i64 n1.to,.string n1.tx,.slice A' n1.ks.length c']) (bG.mk_ (Ij.keep zr (fun b hb=>by have:=hb.2;omega)))).mono ?_;rintro e w4 ⟨rfl,dB⟩;have L':=Xn.below dB (by omega);have JL:=Xt.below dB (by omega);have Zh:Below w.heap.size w w4:=eF.trans (dB.mono (by omega));have hs4:=dB.size;have Y':aQ w4 (fun b=>w.heap.size+1<b∧b<w2.heap.size) (.slice A' n1.ks.length c') n1.ks:=Ij.keep (fun b hb=>dB.block b (by have:=hb.2;omega)) (fun b hb=>hb);have q0:=L'.cell 0;have q1:=L'.cell 1;have q2:=L'.cell 2;have q3:=L'.cell 3;have q4:=L'.cell 4;have qf:=L'.frozen;have ql:=L'.lt;have d0:=JL.cell 0;have d1:=JL.cell 1;have d2:=JL.cell 2;have df:=JL.frozen;have dl:=JL.lt;simp at q0 q1 q2 q3 q4 d0 d1 d2;have Z0:=zh L';have QV:=zh JL;have bu:=zh Zh;have HR4:=zh Y';clear Xn Xt eF Ij dB L' JL Zh Y';by_cases hd:(200:Int)<depW n1
      · have hdd:decide ((200:Int)<depW n1)=true:=by simpa using hd
        have GQ:=r5.o;rw [if_pos hd] at GQ;subst GQ;go_wp2_with fail;refine leaves_cons (f:=32) (args:=#[.pointer (some ⟨w.heap.size,0,none⟩),.pointer (some ⟨w.heap.size+1,0,none⟩)]) (by simp) (by simp [go_sem]) ?_;refine tJ.mono ?_;rintro e u' w5 ⟨rfl,rfl,rfl⟩;refine ⟨_,y8 ((((Z0.o.p5).far1 (by omega) _).far1 (by omega) _).far1 (by omega) _) ((((QV.o.f5).set_ 0 _).set_ 1 _).set_ 2 _),?_⟩;exact ⟨((((((((bu.o.setCell (by simp) _).setCell (by simp) _).setCell (by simp) _).setCell (by simp) _).setCell (by simp) _).setCell (by simp) _).setCell (by simp) _).setCell (by simp) _),rfl⟩
      · have hdd:decide ((200:Int)<depW n1)=false:=by simpa using hd
        have GQ:=r5.o;rw [if_neg hd] at GQ;subst GQ;go_wp2_with fail;refine leaves_cons (f:=32) (args:=#[.pointer (some ⟨w.heap.size,0,none⟩),.pointer (some ⟨w.heap.size+1,0,none⟩)]) (by simp) (by simp [go_sem]) ?_;refine tJ.mono ?_;rintro e u' w5 ⟨rfl,rfl,rfl⟩;refine ⟨_,y8 ((((Z0.o.p5).far1 (by omega) _).far1 (by omega) _).far1 (by omega) _) ((((QV.o.f5).set_ 0 _).set_ 1 _).set_ 2 _),?_⟩;refine ⟨((((((((bu.o.setCell (by simp) _).setCell (by simp) _).setCell (by simp) _).setCell (by simp) _).setCell (by simp) _).setCell (by simp) _).setCell (by simp) _).setCell (by simp) _),A',c',rfl,HR4.o.keep (fun b hb=>?_) (fun b hb=>⟨by have:=hb.1;omega,by have:=hb.2;simp;omega⟩)⟩;(have h1:b≠w.heap.size:=by have:=hb.1;omega);(have h2:b≠w.heap.size+1:=by have:=hb.1;omega);(iterate 3 refine (Below.heap_setCell _ _ _ _ h2).trans ?_);(iterate 5 refine (Below.heap_setCell _ _ _ _ h1).trans ?_);rfl
end
set_option maxRecDepth 100000
set_option maxHeartbeats 4000000
def oh (s:ByteArray):Option (Except (Int×Int) No):=ow (fun ts=>ky ts (dM ts (gr ts ts.length))) s
section
variable {w:World}
theorem IR {W:World} {a b:Nat} {c0 c1 c2 c3 c4 d0 d1 d2 x0 x1 x4 x5 x6 x7 x8:Value} (h:aj W a 25 #[c0,c1,c2,c3,c4]) (h':aj W b 27 #[d0,d1,d2]) :
    (results Tryz.f10 #[x0,x1,.pointer (some ⟨a,0,none⟩),.pointer (some ⟨b,0,none⟩),x4,x5,x6,x7,x8]).run prog W = .ok (.tuple #[.agg #[c0,c1,c2,c3,c4],.agg #[d0,d1,d2]]) W:=by
  have ND:=h.cell 0;have c1':=h.cell 1;have NC:=h.cell 2;have NB:=h.cell 3;have NA:=h.cell 4;have we:=h'.cell 0;have v_:=h'.cell 1;have v8:=h'.cell 2;simp at ND c1' NC NB NA we v_ v8;simp [results,results10,go_sem,ND,c1',NC,NB,NA,we,v_,v8]
theorem Sm (w:World) (v:Value):(callFunc 21 #[v]).run prog w = .ok (.enter 21 #[v]) w:=by kernel_rfl
theorem Sk (w:World) (v u:Value):(callFunc 34 (#[v] ++ #[u])).run prog w = .ok (.enter 34 (#[v] ++ #[u])) w:=by kernel_rfl
theorem Cx {n:Nat}:Calls prog 20 #[.func (.func n) #[] #[]] w fun e w'=>∃ wb,w.heap.size≤wb∧e = .returned (.func (.func 34) #[] #[.pointer (some ⟨wb,0,none⟩)])∧aj w' wb 46 #[.func (.func n) #[] #[]]∧Below w.heap.size w w':=by
  have UV:∀ (fn:Fn) (first cap:Array Value) (w:World),(Instr.makeFunc fn first cap).run prog w = .ok (.func fn first cap) w:=fun _ _ _ _=>rfl;go_enter func20,ntmps20;go_wp2_with fail;go_ret;exact ⟨_,Nat.le_refl _,rfl,aj.new _ _ _,(Below.refl _ _).alloc (Nat.le_refl _) _⟩
theorem AQ {s:ByteArray} (hs:s.size≤140737488355328) (hT:Lib.Utf8Tabs 0 1 w) (h3:3≤w.heap.size) {mm:Int} (n_:w.cell? ⟨2,0,none⟩=some (.int .i64 mm)) {r:Except (Int×Int) No} (hr:oh s=some r) :
    Calls prog 10 #[.string s] w (F2 w r):=by
  have HT:=zh hT;have Ay:=zh n_;have HR:=zh hr;clear hT n_ hr;go_enter func10,ntmps10;go_wp2_with fail;have vE:Below w.heap.size w ((w.alloc (.cells dD 25)).alloc (.cells #[.int .i64 0,.string ⟨#[]⟩,.int .i64 0] 27)):=((Below.refl _ _).alloc (Nat.le_refl _) _).alloc (by simp) _;have L_:aj ((w.alloc (.cells dD 25)).alloc (.cells #[.int .i64 0,.string ⟨#[]⟩,.int .i64 0] 27)) w.heap.size 25 dD:=(aj.new _ _ _).alloc _;have Ma:aj ((w.alloc (.cells dD 25)).alloc (.cells #[.int .i64 0,.string ⟨#[]⟩,.int .i64 0] 27)) (w.heap.size+1) 27 #[.int .i64 0,.string ⟨#[]⟩,.int .i64 0]:=aj.new' (by simp);have U6:((w.alloc (.cells dD 25)).alloc (.cells #[.int .i64 0,.string ⟨#[]⟩,.int .i64 0] 27)).heap.size=w.heap.size+2:=by simp
  generalize sG:((w.alloc (.cells dD 25)).alloc (.cells #[.int .i64 0,.string ⟨#[]⟩,.int .i64 0] 27))=W0 at vE L_ Ma U6
  (try rw [sG])
  (try (unfold dD at sG;rw [sG]))
  clear sG;refine (Cx (n:=21)).mono ?_;rintro e w0 ⟨wb,hwb,rfl,hk,Mc⟩;have vE:Below w.heap.size w w0:=vE.trans (Mc.mono (by omega));have L_:=L_.below Mc (by omega);have Ma:=Ma.below Mc (by omega);have hZ1:=Mc.size;(have U6:w.heap.size+2≤w0.heap.size:=by omega);have HK:=zh hk;clear hk Mc hZ1;go_wp2_with fail;refine (vg (n:=34) (cap:=#[.pointer (some ⟨wb,0,none⟩)]) hs (Utf8Tabs_below HT.o vE) (by omega) (mm:=mm) (by refine Eq.trans (vE.cell (p:=⟨2,0,none⟩) (by show 2<_;omega)) Ay.o) (fun w v=>Sk w v _) (fun E W r hO hw hb hx hP=>Ag hO (fun w=>Sm w _) (fun w r hr hP=>bZ hO (gr_fin hO.wt _ 0) (Wc hO _) (Nat.le_refl 0) hr hP) (expr_fin hO.wt (gr_fin hO.wt _ 0) (Nat.le_refl 0) hP.ilt) (HK.o.below hb HK.o.lt) hx hP) HR.o).mono ?_;rintro e w1 ⟨cB,ua⟩;have kb:Hd (Below w.heap.size w w1):=zh (vE.trans (cB.mono (by omega)));have sb:Hd (aj w1 w.heap.size 25 dD):=zh (L_.below cB (by omega));have wP:Hd (aj w1 (w.heap.size+1) 27 #[.int .i64 0,.string ⟨#[]⟩,.int .i64 0]):=zh (Ma.below cB (by omega));have kB:=sb.o.lt;have D9:=wP.o.lt;have ud:=sb.o.cell 0;have D7:=sb.o.cell 1;have K8:=sb.o.cell 2;have Qx:=sb.o.cell 3;have OS:=sb.o.cell 4;have YT:=sb.o.frozen;have JE:=wP.o.cell 0;have JD:=wP.o.cell 1;have G0:=wP.o.cell 2;have YU:=wP.o.frozen;simp [dD] at ud D7 K8 Qx OS;simp at JE JD G0;have Jr:=cB.size;clear cB vE L_ Ma;cases r with
  | error cp=>
    obtain ⟨c,p⟩:=cp;obtain rfl:=ua;unfold dD;go_wp2_with fail;refine bodyPost_ret (IR ((((sb.o.p5).far1 (by omega) _).far1 (by omega) _).far1 (by omega) _) ((((wP.o.f5).set_ 0 _).set_ 1 _).set_ 2 _)) rfl ?_;exact ⟨((((((((kb.o.setCell (by simp) _).setCell (by simp) _).setCell (by simp) _).setCell (by simp) _).setCell (by simp) _).setCell (by simp) _).setCell (by simp) _).setCell (by simp) _),rfl⟩
  | ok n1=>
    obtain ⟨A',c',rfl,ae⟩:=ua;have g_:=zh ae;clear ae;go_wp2_with fail;refine bodyPost_ret (IR ((((sb.o.p5).far1 (by omega) _).far1 (by omega) _).far1 (by omega) _) ((((wP.o.f5).set_ 0 _).set_ 1 _).set_ 2 _)) rfl ?_;refine ⟨((((((((kb.o.setCell (by simp) _).setCell (by simp) _).setCell (by simp) _).setCell (by simp) _).setCell (by simp) _).setCell (by simp) _).setCell (by simp) _).setCell (by simp) _),A',c',rfl,g_.o.keep (fun b hb=>?_) (fun b hb=>⟨by have:=hb.1;omega,by have:=hb.2;simp;omega⟩)⟩;(have h1:b≠w.heap.size:=by have:=hb.1;omega);(have h2:b≠w.heap.size+1:=by have:=hb.1;omega);(iterate 3 refine (Below.heap_setCell _ _ _ _ h2).trans ?_);(iterate 5 refine (Below.heap_setCell _ _ _ _ h1).trans ?_);rfl
end
set_option maxRecDepth 100000
set_option maxHeartbeats 4000000
def Va:ByteArray:=⟨#[45,97,32,42,32,98,32,61,61,32,99,32,124,124,32,100]⟩
def SB:Option (Except (Int×Int) No)→Bool
  | some (.ok n)=>decide (n.k=52) && decide (n.tx=⟨#[124,124]⟩) && decide (n.to=16) && (match n.ks with | [a,_]=>decide (a.tx=⟨#[61,61]⟩) | _=>false)
  | _=>false
theorem SA:SB (oh Va)=true:=by decide +kernel
theorem Ms:∃ (n:No) (a b:No),oh Va=some (.ok n)∧n.k=52∧n.tx=⟨#[124,124]⟩∧n.to=16∧n.ks=[a,b]∧a.tx=⟨#[61,61]⟩:=by
  have h:=SA
  generalize oh Va=r at h ⊢
  unfold SB at h;split at h
  · rename_i n
    simp only [Bool.and_eq_true,decide_eq_true_eq] at h;obtain ⟨⟨⟨h1,h2⟩,h3⟩,h4⟩:=h;split at h4
    · rename_i a b hk
      exact ⟨n,a,b,rfl,h1,h2,h3,hk,by simpa using h4⟩
    · cases h4
  · cases h
section
variable {w:World}
theorem Cw (hT:Lib.Utf8Tabs 0 1 w) (h3:3≤w.heap.size) {mm:Int} (n_:w.cell? ⟨2,0,none⟩=some (.int .i64 mm)) :
    Calls prog 9 #[] w fun e w'=>e = .returned (.bool true)∧Below w.heap.size w w':=by
  obtain ⟨n,a,b,hv,h1,h2,Zi,h4,h5⟩:=Ms;have HT:=zh hT;have Ay:=zh n_;have HV:=zh hv;clear hT n_ hv;go_enter func9,ntmps9;go_wp2_with fail;refine (AQ (s:=Va) (by decide) HT.o h3 Ay.o HV.o).mono ?_;rintro e w1 ⟨cB,A',c',rfl,ae⟩;obtain ⟨nk,nf,nt,Qm,M_⟩:=n;simp only [No.k,No.fr,No.to,No.tx,No.ks] at h1 h2 Zi h4 ae ⊢;subst h1 h2 Zi h4;obtain ⟨xs,⟨Wt,A2,cap,hv2,OT,hle2,-,Rh⟩,hN⟩:=ae;cases hv2;obtain ⟨bb,oo,rfl,hS,Nu⟩:=Rh (by simp);simp only [aC] at hN;obtain ⟨c1,c2,rfl,Za,-⟩:=hN;obtain ⟨A3,c3,rfl,-⟩:=Za.forms;have q3:=Nu 3 (.string a.tx) (by simp);rw [h5] at q3;have wO:bb<w1.heap.size:=hS.2;(have hk:2≤c':=by simpa using OT);have HB:=zh cB;clear Nu Za Rh hS cB Wt;go_wp2_with fail;go_ret;exact ⟨rfl,(HB.o.alloc (by have:=HB.o.size;omega) _).alloc (by have:=HB.o.size;simp;omega) _⟩
end
set_option maxRecDepth 100000
set_option maxHeartbeats 4000000
def tG (s:ByteArray):Option (Except (Int×Int) No):=ow (fun ts=>mE ts (gr ts ts.length)) s
section
variable {w:World}
theorem IV {W:World} {a b:Nat} {c0 c1 c2 c3 c4 d0 d1 d2 x0 x1 x4 x5 x6 x7:Value} (h:aj W a 25 #[c0,c1,c2,c3,c4]) (h':aj W b 27 #[d0,d1,d2]) :
    (results Tryz.f16 #[x0,x1,.pointer (some ⟨a,0,none⟩),.pointer (some ⟨b,0,none⟩),x4,x5,x6,x7]).run prog W = .ok (.tuple #[.agg #[c0,c1,c2,c3,c4],.agg #[d0,d1,d2]]) W:=by
  have ND:=h.cell 0;have c1':=h.cell 1;have NC:=h.cell 2;have NB:=h.cell 3;have NA:=h.cell 4;have we:=h'.cell 0;have v_:=h'.cell 1;have v8:=h'.cell 2;simp at ND c1' NC NB NA we v_ v8;simp [results,results16,go_sem,ND,c1',NC,NB,NA,we,v_,v8]
theorem Sl (w:World) (v:Value):(callFunc 29 (#[v] ++ #[])).run prog w = .ok (.enter 29 (#[v] ++ #[])) w:=by kernel_rfl
theorem vJ {s:ByteArray} (hs:s.size≤140737488355328) (hT:Lib.Utf8Tabs 0 1 w) (h3:3≤w.heap.size) {mm:Int} (n_:w.cell? ⟨2,0,none⟩=some (.int .i64 mm)) {r:Except (Int×Int) No} (hr:tG s=some r) :
    Calls prog 16 #[.string s] w (F2 w r):=by
  have HT:=zh hT;have Ay:=zh n_;have HR:=zh hr;clear hT n_ hr;go_enter func16,ntmps16;go_wp2_with fail;have vE:Below w.heap.size w ((w.alloc (.cells dD 25)).alloc (.cells #[.int .i64 0,.string ⟨#[]⟩,.int .i64 0] 27)):=((Below.refl _ _).alloc (Nat.le_refl _) _).alloc (by simp) _;have L_:aj ((w.alloc (.cells dD 25)).alloc (.cells #[.int .i64 0,.string ⟨#[]⟩,.int .i64 0] 27)) w.heap.size 25 dD:=(aj.new _ _ _).alloc _;have Ma:aj ((w.alloc (.cells dD 25)).alloc (.cells #[.int .i64 0,.string ⟨#[]⟩,.int .i64 0] 27)) (w.heap.size+1) 27 #[.int .i64 0,.string ⟨#[]⟩,.int .i64 0]:=aj.new' (by simp);have U6:((w.alloc (.cells dD 25)).alloc (.cells #[.int .i64 0,.string ⟨#[]⟩,.int .i64 0] 27)).heap.size=w.heap.size+2:=by simp
  generalize sG:((w.alloc (.cells dD 25)).alloc (.cells #[.int .i64 0,.string ⟨#[]⟩,.int .i64 0] 27))=W0 at vE L_ Ma U6
  (try rw [sG])
  (try (unfold dD at sG;rw [sG]))
  clear sG;refine (vg (n:=29) (cap:=#[]) hs (Utf8Tabs_below HT.o vE) (by omega) (mm:=mm) (by refine Eq.trans (vE.cell (p:=⟨2,0,none⟩) (by show 2<_;omega)) Ay.o) Sl (fun E W r hO hw hb hx hP=>EE hO (gr_fin hO.wt _ 0) (Wc hO _) (Nat.le_refl 0) hx hP) HR.o).mono ?_;rintro e w1 ⟨cB,ua⟩;have kb:Hd (Below w.heap.size w w1):=zh (vE.trans (cB.mono (by omega)));have sb:Hd (aj w1 w.heap.size 25 dD):=zh (L_.below cB (by omega));have wP:Hd (aj w1 (w.heap.size+1) 27 #[.int .i64 0,.string ⟨#[]⟩,.int .i64 0]):=zh (Ma.below cB (by omega));have kB:=sb.o.lt;have D9:=wP.o.lt;have ud:=sb.o.cell 0;have D7:=sb.o.cell 1;have K8:=sb.o.cell 2;have Qx:=sb.o.cell 3;have OS:=sb.o.cell 4;have YT:=sb.o.frozen;have JE:=wP.o.cell 0;have JD:=wP.o.cell 1;have G0:=wP.o.cell 2;have YU:=wP.o.frozen;simp [dD] at ud D7 K8 Qx OS;simp at JE JD G0;have Jr:=cB.size;clear cB vE L_ Ma;cases r with
  | error cp=>
    obtain ⟨c,p⟩:=cp;obtain rfl:=ua;unfold dD;go_wp2_with fail;refine bodyPost_ret (IV ((((sb.o.p5).far1 (by omega) _).far1 (by omega) _).far1 (by omega) _) ((((wP.o.f5).set_ 0 _).set_ 1 _).set_ 2 _)) rfl ?_;exact ⟨((((((((kb.o.setCell (by simp) _).setCell (by simp) _).setCell (by simp) _).setCell (by simp) _).setCell (by simp) _).setCell (by simp) _).setCell (by simp) _).setCell (by simp) _),rfl⟩
  | ok n1=>
    obtain ⟨A',c',rfl,ae⟩:=ua;have g_:=zh ae;clear ae;go_wp2_with fail;refine bodyPost_ret (IV ((((sb.o.p5).far1 (by omega) _).far1 (by omega) _).far1 (by omega) _) ((((wP.o.f5).set_ 0 _).set_ 1 _).set_ 2 _)) rfl ?_;refine ⟨((((((((kb.o.setCell (by simp) _).setCell (by simp) _).setCell (by simp) _).setCell (by simp) _).setCell (by simp) _).setCell (by simp) _).setCell (by simp) _).setCell (by simp) _),A',c',rfl,g_.o.keep (fun b hb=>?_) (fun b hb=>⟨by have:=hb.1;omega,by have:=hb.2;simp;omega⟩)⟩;(have h1:b≠w.heap.size:=by have:=hb.1;omega);(have h2:b≠w.heap.size+1:=by have:=hb.1;omega);(iterate 3 refine (Below.heap_setCell _ _ _ _ h2).trans ?_);(iterate 5 refine (Below.heap_setCell _ _ _ _ h1).trans ?_);rfl
end
theorem EF (s:ByteArray):∃ r,tG s=some r:=by
  unfold tG ow;cases hs:ee s with
  | error cp=>exact ⟨_,rfl⟩
  | ok ts=>
    obtain ⟨LP,LO,hl,-⟩:=(jK hs).2.wt;have L5:=(Str.file_fin (i:=0) (b:=false) (lo:=0) LO (Str.gr_fin LO ts.length 0 (by omega)) (Nat.le_refl 0) hl).1;simp only;cases hx:mE ts (gr ts ts.length) (0,false) with
    | none=>exact absurd hx (fun h2=>by obtain ⟨r,h⟩:=L5;rw [h2] at h;cases h)
    | some r=>cases r with
      | error p=>exact ⟨_,rfl⟩
      | ok ns=>exact ⟨_,rfl⟩
theorem EG {s:ByteArray} {c p:Int} (h:tG s=some (.error (c,p))):c≠0:=by
  unfold tG ow at h;cases hs:ee s with
  | error cp=>
    rw [hs] at h;cases h;rcases va hs with h | h <;> omega
  | ok ts=>
    rw [hs] at h;simp only at h;cases hx:mE ts (gr ts ts.length) (0,false) with
    | none=>rw [hx] at h;cases h
    | some r=>
      rw [hx] at h;cases r with
      | error q=>cases h;decide
      | ok ns=>
        simp only [Option.some.injEq] at h;split at h
        · cases h;decide
        · cases h
def Hf (l:List Tk) (p:Int):Prop:=(∀ t ∈ l,0≤t.fr∧t.fr≤t.to∧t.to≤p)∧l.Pairwise fun x y=>x.to≤y.fr
theorem Hf.up {l:List Tk} {p q:Int} (h:Hf l p) (hq:p≤q):Hf l q:=⟨fun t ht=>by have:=h.1 t ht;omega,h.2⟩
theorem Hf.app {l:List Tk} {p q:Int} {z:Tk} (h:Hf l p) (h0:0≤p) (h1:p≤z.fr) (h2:z.fr≤z.to) (h3:z.to≤q):Hf (l ++ [z]) q:=by
  refine ⟨fun t ht=>?_,?_⟩
  · rcases List.mem_append.1 ht with ht | ht
    · have:=h.1 t ht;omega
    · simp only [List.mem_singleton] at ht
      subst ht;omega
  · rw [List.pairwise_append]
    refine ⟨h.2,by simp,fun x hx y hy=>?_⟩;simp only [List.mem_singleton] at hy;subst hy;have:=h.1 x hx;omega
theorem Hf.line {l:List Tk} {p:Nat} (h:Hf l p):Hf (bB p l) p:=by
  unfold bB
  repeat' split
  all_goals first | exact h | exact h.app (by omega) (Int.le_refl _) (Int.le_refl _) (Int.le_refl _)
theorem fR:∀ (f:Nat) (r:List UInt8) (p:Nat) (l:List Tk) {l':List Tk},Hf l p→aX f r p l = .ok l'→∃ q:Nat,Hf l' q
  | 0,r,p,l,l',hl,h=>by
    have h:Except.ok l=(Except.ok l':Except Int (List Tk)):=h;cases h;exact ⟨p,hl⟩
  | f+1,[],p,l,l',hl,h=>by
    have h:Except.ok (bB p l ++ [⟨7,p,p,⟨#[]⟩⟩])=(Except.ok l':Except Int (List Tk)):=h;cases h;exact ⟨p,hl.line.app (by omega) (Int.le_refl _) (Int.le_refl _) (Int.le_refl _)⟩
  | f+1,c :: t,p,l,l',hl,h=>by
    have ad:∀ (k:Nat) (kd:Int) (tx:ByteArray),Hf (l ++ [⟨kd,p,(p:Int)+k,tx⟩]) ((p+k:Nat):Int):=fun k kd tx=>hl.app (by omega) (Int.le_refl _) (by show (p:Int)≤p+k;omega) (by show (p:Int)+k≤_;omega);unfold aX at h;split at h
    · exact fR f t _ _ (hl.line.up (by omega)) h
    split at h
    · exact fR f t _ _ (hl.up (by omega)) h
    split at h
    · cases hr:dK (c :: t) with
      | none=>rw [hr] at h;cases h
      | some n=>
        rw [hr] at h;simp only at h;by_cases h3:0≤Lib.indexByte ((c :: t).take n) 10
        · rw [if_pos h3] at h
          exact fR f _ _ _ (hl.line.up (by omega)) h
        · rw [if_neg h3] at h
          exact fR f _ _ _ (hl.up (by omega)) h
    split at h
    · cases h
    split at h
    · exact fR f _ _ _ (ad _ _ _) h
    split at h
    · cases hr:gl (c :: t) with
      | none=>rw [hr] at h;cases h
      | some n=>
        rw [hr] at h;exact fR f _ _ _ (ad _ _ _) h
    split at h
    · cases hr:bP p t (p+1) [] with
      | error e=>rw [hr] at h;cases h
      | ok qt=>
        obtain ⟨q,tx⟩:=qt;rw [hr] at h;have hb:=(dE t (p+1) [] hr).1;exact fR f _ _ _ (hl.app (by omega) (Int.le_refl _) (by show (p:Int)≤q;omega) (Int.le_refl _)) h
    split at h
    · exact fR f t _ _ (by simpa using ad 1 6 ⟨#[59]⟩) h
    split at h
    · cases h
    · exact fR f _ _ _ (ad _ _ _) h
theorem scanM_rise {s:ByteArray} {l:List Tk} (h:ee s = .ok l):∃ q:Nat,Hf l q:=by
  unfold ee at h;split at h
  · cases h
  · cases hq:aX (s.size+1) s.data.toList 0 [] with
    | error p=>rw [hq] at h;cases h
    | ok l2=>
      rw [hq] at h;cases h;exact fR _ _ _ _ ⟨by simp,by simp⟩ hq
theorem Hf.rt {ts:List Tk} {p:Int} (h:Hf ts p):RT ts:=by
  refine ⟨fun i hi=>?_,fun i hi=>?_⟩
  · have e:ap ts i=ts[i]:=by simp [ap,hi]
    have:=h.1 ts[i] (List.getElem_mem hi);rw [e];exact ⟨this.1,this.2.1⟩
  · have yd:i<ts.length:=by omega
    (have e:ap ts i=ts[i]:=by simp [ap,yd]);(have e':ap ts (i+1)=ts[i+1]:=by simp [ap,hi]);rw [e,e'];exact List.pairwise_iff_getElem.1 h.2 i (i+1) yd hi (Nat.lt_succ_self _)
theorem fileM_v {s:ByteArray} {n:No} (h:tG s=some (.ok n)):∃ ts,ee s = .ok ts∧n.k=1∧nestN n=true∧nmN n=tks ts 0 (ts.length - 1)∧BN n ts.length∧depW n≤200:=by
  unfold tG ow at h;cases hs:ee s with
  | error cp=>rw [hs] at h;cases h
  | ok ts=>
    rw [hs] at h;simp only at h;obtain ⟨LP,LO,hl,-⟩:=(jK hs).2.wt;obtain ⟨q,hq⟩:=scanM_rise hs;cases hx:mE ts (gr ts ts.length) (0,false) with
    | none=>rw [hx] at h;cases h
    | some r=>
      rw [hx] at h;cases r with
      | error p=>cases h
      | ok ns=>
        obtain ⟨m,s'⟩:=ns;obtain ⟨h1,-,h2,h3,h4,h5,h6⟩:=file_v LP hq.rt (gr_v LP hq.rt _) hl m s' hx;simp only [Option.some.injEq] at h;split at h
        · cases h
        · rename_i hdw
          cases h;refine ⟨ts,rfl,h2,h3,?_,h6.wide (Nat.le_of_lt h1),by omega⟩
          have e:s'.1=ts.length - 1:=by
            obtain ⟨m',z,e,-,hm,-⟩:=(jK hs).2;(have h6:ts.length=m'.length+1:=by rw [e];simp);rcases Nat.lt_or_ge s'.1 m'.length with h7 | h7
            · exfalso
              have h8:ap ts s'.1=m'[s'.1]:=by
                rw [e];simp [ap,List.getElem?_append_left h7,List.getElem?_eq_getElem h7]
              exact hm m'[s'.1] (List.getElem_mem h7) (by rw [← h8];exact h5)
            · omega
          rw [h4,e]
mutual
def flN:No→List No
  | .mk k f t x ks=>.mk k f t x ks :: flL ks
def flL:List No→List No
  | []=>[]
  | n :: ns=>flN n ++ flL ns
end
theorem flL_app:∀ l m:List No,flL (l ++ m)=flL l ++ flL m
  | [],m=>by rw [flL];rfl
  | n :: ns,m=>by rw [List.cons_append,flL,flL,flL_app ns m,List.append_assoc]
theorem flL_take {ks:List No} {j:Nat} (h:j<ks.length):flL (ks.take (j+1))=flL (ks.take j) ++ flN ks[j]:=by
  rw [List.take_succ_eq_append_getElem h,flL_app,flL,flL,List.append_nil]
theorem flL_le {ks:List No} {j:Nat}:(flL (ks.take j)).length≤(flL ks).length:=by
  have e:=flL_app (ks.take j) (ks.drop j);rw [List.take_append_drop] at e;rw [e,List.length_append];omega
theorem info_int:(prog.info? 3).map (fun i=>(i.zero,i.size,i.bytes))=some (some (.int .i64 0),1,8):=by kernel_rfl
structure FI (B:Nat) (w wr:World) (lv0 av0:Value) (out:List No) (xs:List Value) (q:Nat) (ys:List Value) (lv av:Value):Prop where
  l:wr.ownsRow B 25 5 lv out.length xs
  n:aC wr (fun k=>k<B) out xs
  a:wr.ownsRow B 3 1 av q ys
  hb:B≤wr.heap.size
  but:ay (fun k=>lv0.ownBlock=some k∨av0.ownBlock=some k) w wr
  ll:∀ k,lv.ownBlock=some k→lv0.ownBlock=some k∨w.heap.size≤k
  la:∀ k,av.ownBlock=some k→av0.ownBlock=some k∨w.heap.size≤k
section
variable {B q:Nat} {w wr w3:World} {lv0 av0 lv av v':Value} {out:List No} {xs ys cs:List Value} {n:No}
theorem FI.alloc (h:FI B w wr lv0 av0 out xs q ys lv av) (o:Obj):FI B w (wr.alloc o) lv0 av0 out xs q ys lv av:=
  ⟨own_below h.l (aG _ _),h.n.keep (zr.alloc (fun k hk=>Nat.lt_of_lt_of_le hk h.hb) o) (fun _ h=>h),own_below h.a (aG _ _),by have:=h.hb;simp;omega,h.but.alloc _,h.ll,h.la⟩
theorem FI.growL (h:FI B w wr lv0 av0 out xs q ys lv av) (aD:w3.ownsRow B 25 5 v' (out.length+1) (xs ++ cs)) (hg:wr.grownBy w3 lv.ownBlock) (cX:v'.ownBlock=lv.ownBlock∨v'.ownBlock=some wr.heap.size) (hn:bG wr (fun k=>k<B) n cs) :
    FI B w w3 lv0 av0 (out ++ [n]) (xs ++ cs) q ys v' av:=by
  have hs:aI (fun k=>k<B) wr w3:=aI.of_grown hg (fun k hk=>Nat.lt_of_lt_of_le hk h.hb) fun b hb e=>by
    have:=(h.l.lt b e.symm).1;omega
  refine ⟨by simpa using aD,aC.append (h.n.keep hs fun _ h=>h) (aC.one (hn.keep hs fun _ h=>h)),h.a.kept hg ?_,Nat.le_trans h.hb hg.size,?_,?_,h.la⟩
  · cases hA:av.ownBlock with
    | none=>exact .inl rfl
    | some k=>exact .inr fun e=>zg h.a h.l (by decide) hA e.symm
  · exact h.but.trans (Y:=fun k=>lv.ownBlock=some k) ⟨hg.os,hg.tape,hg.output,hg.size,fun k hk hX=>hg.block k hk fun e=>hX e.symm⟩ fun k hk e=>(h.ll k e).elim .inl fun h=>absurd hk (by omega)
  · intro k e
    rcases cX with h1 | h1
    · exact h.ll k (by rw [← h1];exact e)
    · rw [h1] at e
      cases e;exact .inr h.but.size
theorem FI.growA {d:Value} (h:FI B w wr lv0 av0 out xs q ys lv av) (aD:w3.ownsRow B 3 1 v' (q+1) (ys ++ [d])) (hg:wr.grownBy w3 av.ownBlock) (cX:v'.ownBlock=av.ownBlock∨v'.ownBlock=some wr.heap.size) :
    FI B w w3 lv0 av0 out xs (q+1) (ys ++ [d]) lv v':=by
  have hs:aI (fun k=>k<B) wr w3:=aI.of_grown hg (fun k hk=>Nat.lt_of_lt_of_le hk h.hb) fun b hb e=>by
    have:=(h.a.lt b e.symm).1;omega
  refine ⟨h.l.kept hg ?_,h.n.keep hs fun _ h=>h,aD,Nat.le_trans h.hb hg.size,?_,h.ll,?_⟩
  · cases hA:lv.ownBlock with
    | none=>exact .inl rfl
    | some k=>exact .inr fun e=>zg h.l h.a (by decide) hA e.symm
  · exact h.but.trans (Y:=fun k=>av.ownBlock=some k) ⟨hg.os,hg.tape,hg.output,hg.size,fun k hk hX=>hg.block k hk fun e=>hX e.symm⟩ fun k hk e=>(h.la k e).elim .inr fun h=>absurd hk (by omega)
  · intro k e
    rcases cX with h1 | h1
    · exact h.la k (by rw [← h1];exact e)
    · rw [h1] at e
      cases e;exact .inr h.but.size
theorem FI.go {Q3:List No} {wV ys2:List Value} {q2:Nat} {lv2 av2:Value} (h:FI B w wr lv0 av0 out xs q ys lv av) (h2:FI B wr w3 lv av Q3 wV q2 ys2 lv2 av2):FI B w w3 lv0 av0 Q3 wV q2 ys2 lv2 av2:=
  ⟨h2.l,h2.n,h2.a,h2.hb,h.but.trans h2.but fun k hk e=>by
    rcases e with e | e
    · exact (h.ll k e).elim .inl fun h=>absurd hk (by omega)
    · exact (h.la k e).elim .inr fun h=>absurd hk (by omega),
   fun k e=>(h2.ll k e).elim (h.ll k) fun h3=>.inr (Nat.le_trans h.but.size h3),fun k e=>(h2.la k e).elim (h.la k) fun h3=>.inr (Nat.le_trans h.but.size h3)⟩
theorem FI.off {o:Obj} (h:FI B (w.alloc o) wr lv0 av0 out xs q ys lv av):FI B w wr lv0 av0 out xs q ys lv av:=
  ⟨h.l,h.n,h.a,h.hb,((ay.refl _ w).alloc o).trans h.but fun _ _ h=>h,fun k e=>(h.ll k e).elim .inl fun h=>.inr (by simp at h;omega),fun k e=>(h.la k e).elim .inl fun h=>.inr (by simp at h;omega)⟩
end
set_option maxRecDepth 100000
set_option maxHeartbeats 4000000
theorem flat_any (N:Nat):∀ (n:No) (cs:List Value) (w:World) (B:Nat) (lv av:Value) (l:List No) (xs ys:List Value) (m:Nat) (d:Int),SizeOf.sizeOf n<N→bG w (fun k=>k<B) n cs→
    FI B w w lv av l xs m ys lv av→l.length+(flN n).length≤100000000→m+(flN n).length≤100000000→
    Calls prog 30 #[.agg cs.toArray,.int .i64 d,lv,av] w fun e w'=>∃ xs' ys' lv' av',e = .returned (.tuple #[lv',av'])∧FI B w w' lv av (l ++ flN n) xs' (m+(flN n).length) ys' lv' av':=by
  induction N with
  | zero=>intro n cs w B lv av l xs ys m d h;exact absurd h (by omega)
  | succ N ih=>
    intro n cs w B lv av l xs ys m d hN hr hl cB cK;obtain ⟨A1,c1,rfl,OW⟩:=hr.forms;obtain ⟨k,lo,hi,tx,ks⟩:=n;simp only [No.k,No.fr,No.to,No.tx,No.ks] at *;(have eN:ks.length≤maxLen:=by obtain ⟨xs,⟨-,A2,cap,hv,h1,h2,-⟩,-⟩:=OW;cases hv;exact Nat.le_trans h1 h2);(have eN:ks.length≤9223372036854775807:=by unfold maxLen at eN;omega);obtain ⟨A2,c2,wQ⟩:=cA hl.l;subst wQ;obtain ⟨A3,c3,hA3⟩:=cA hl.a;subst hA3;(have L4:(flN (.mk k lo hi tx ks)).length=(flL ks).length+1:=by rw [flN,List.length_cons]);(have hfe:flN (.mk k lo hi tx ks) = .mk k lo hi tx ks :: flL ks:=by rw [flN]);rw [L4] at cB cK;rw [L4,hfe];have HKR:=zh OW;have HR:=zh hr;have HL:=zh hl;have IH:=zh ih;have N_:=zh hN;have hBw:=hl.hb;clear OW ih hl hr hN L4 hfe;obtain ⟨i0,fL,ga,f_,fZ⟩:=info_parts dO;obtain ⟨j0,U0,jz0,jz1,jz2⟩:=info_parts info_int;go_enter func30,ntmps30;have HF1:Hd (FI B (w.alloc (.cells #[.int .i64 k,.int .i64 lo,.int .i64 hi,.string tx,.slice A1 ks.length c1] 25)) (w.alloc (.cells #[.int .i64 k,.int .i64 lo,.int .i64 hi,.string tx,.slice A1 ks.length c1] 25)) (.slice A2 l.length c2) (.slice A3 m c3) l xs m ys (.slice A2 l.length c2) (.slice A3 m c3)):=zh ⟨(HL.o.alloc _).l,(HL.o.alloc _).n,(HL.o.alloc _).a,(HL.o.alloc _).hb,zb,fun _ h=>.inl h,fun _ h=>.inl h⟩
    have rZ:Hd (Row ((w.alloc (.cells #[.int .i64 k,.int .i64 lo,.int .i64 hi,.string tx,.slice A1 ks.length c1] 25)).alloc (.cells #[.int .i64 k,.int .i64 lo,.int .i64 hi,.string tx,.slice A1 ks.length c1] 25)) (fun b=>b=w.heap.size+1) 5 (.slice (some ⟨w.heap.size+1,0,none⟩) 1 1) 1 [.int .i64 k,.int .i64 lo,.int .i64 hi,.string tx,.slice A1 ks.length c1]):=zh (by
      have h1:=(aj.new (w.alloc (.cells #[.int .i64 k,.int .i64 lo,.int .i64 hi,.string tx,.slice A1 ks.length c1] 25)) 25 #[.int .i64 k,.int .i64 lo,.int .i64 hi,.string tx,.slice A1 ks.length c1]).row (S:=fun b=>b=(w.alloc (.cells #[.int .i64 k,.int .i64 lo,.int .i64 hi,.string tx,.slice A1 ks.length c1] 25)).heap.size) (n:=1) (size:=5) rfl (by unfold maxLen;omega) rfl;(have e:(w.alloc (.cells #[.int .i64 k,.int .i64 lo,.int .i64 hi,.string tx,.slice A1 ks.length c1] 25)).heap.size=w.heap.size+1:=by simp);rw [e] at h1
      exact h1)
    go_wp2_with (at_builtin;refine au _ rfl _ _ 23 rfl B 25 i0 _ 5 64 underlying23 fL ga f_ fZ rfl (by omega) (.slice A2 l.length c2) l.length xs rfl ((HF1.o.alloc _).l) (fun b=>b=w.heap.size+1) (.slice (some ⟨w.heap.size+1,0,none⟩) 1 1) 1 [.int .i64 k,.int .i64 lo,.int .i64 hi,.string tx,.slice A1 ks.length c1] rfl rZ.o pu (by unfold maxLen;omega) (by omega) (by simp;omega) ?_);intro v' w3 aD hg bN cX;have Xt:=(HF1.o.alloc (.cells #[.int .i64 k,.int .i64 lo,.int .i64 hi,.string tx,.slice A1 ks.length c1] 25)).growL aD hg (by simpa using cX) (n:=.mk k lo hi tx ks) (HR.o.keep ((zr.alloc (fun b hb=>by omega) _).alloc (fun b hb=>by simp;omega) _) fun _ h=>h);obtain ⟨A4,c4,rfl⟩:=cA aD;have fK:=hg.size;simp at fK
    have hbx:aj w3 w.heap.size 25 #[.int .i64 k,.int .i64 lo,.int .i64 hi,.string tx,.slice A1 ks.length c1]:=((aj.new w _ _).alloc _).grown hg (fun e=>by
      have:=(HL.o.l.lt _ e.symm).2
      omega)
    have HF3:=zh Xt;have HBX:=zh hbx;clear aD hg bN cX Xt hbx rZ HF1;have HRA:Hd (Row (w3.alloc (.cells #[.int .i64 d] 3)) (fun b=>b=w3.heap.size) 1 (.slice (some ⟨w3.heap.size,0,none⟩) 1 1) 1 [.int .i64 d]):=zh ((aj.new w3 3 #[.int .i64 d]).row (n:=1) (size:=1) rfl (by unfold maxLen;omega) rfl);go_wp2_with (at_builtin;refine au _ rfl _ _ 38 rfl B 3 j0 _ 1 8 underlying38 U0 jz0 jz1 jz2 rfl (by omega) (.slice A3 m c3) m ys rfl ((HF3.o.alloc _).a) (fun b=>b=w3.heap.size) (.slice (some ⟨w3.heap.size,0,none⟩) 1 1) 1 [.int .i64 d] rfl HRA.o (by simp [Value.oneCell']) (by unfold maxLen;omega) (by omega) (by simp;omega) ?e1)
    case e1=>
    intro v2 w4 aD hg bN cX;have JL:=(HF3.o.alloc (.cells #[.int .i64 d] 3)).growA aD hg (by simpa using cX);obtain ⟨A5,c5,rfl⟩:=cA aD;have iV:=hg.size;simp at iV
    have hbx:aj w4 w.heap.size 25 #[.int .i64 k,.int .i64 lo,.int .i64 hi,.string tx,.slice A1 ks.length c1]:=(HBX.o.alloc _).grown hg (fun e=>by
      have:=(HL.o.a.lt _ e.symm).2
      omega)
    have QV:=zh JL;have HBX4:=zh hbx;have R2:=hbx.cell 4;simp at R2;clear aD hg bN cX JL hbx HRA HF3 HBX;go_wp2_with fail
    (try go_step3)
    go_wp2_with fail
    go_loopg [2,3,10] ks.length (fun mm lv av i wr=>∃ (j:Nat) (Al:Option Addr) (cl:Nat) (Aa:Option Addr) (ca q:Nat) (out:List No) (xr yr:List Value),mm=ks.length - j∧j≤ks.length∧i = .int .i64 j∧lv = .slice Al out.length cl∧av = .slice Aa q ca∧Hd (out=l ++ [.mk k lo hi tx ks] ++ flL (ks.take j))∧Hd (q=m+1+(flL (ks.take j)).length)∧
      Hd (FI B (w.alloc (.cells #[.int .i64 k,.int .i64 lo,.int .i64 hi,.string tx,.slice A1 ks.length c1] 25)) wr (.slice A2 l.length c2) (.slice A3 m c3) out xr q yr (.slice Al out.length cl) (.slice Aa q ca)))
    case atStart=>exact ⟨0,A4,c4,A5,c5,m+1,l ++ [.mk k lo hi tx ks],_,_,by simp,by omega,rfl,by simp,rfl,zh (by rw [List.take_zero,flL,List.append_nil]),zh (by rw [List.take_zero,flL];rfl),zh (by simpa using QV.o)⟩
    case round=>
      obtain ⟨j,Al,cl,Aa,ca,q,out,xr,yr,rfl,hj,rfl,rfl,rfl,hout,hq,Ye⟩:=hrel
      have kR:¬ ((Value.slice A2 l.length c2).ownBlock=some w.heap.size∨(Value.slice A3 m c3).ownBlock=some w.heap.size):=by
        rintro (e | e)
        · have:=(HL.o.l.lt _ e).2;omega
        · have:=(HL.o.a.lt _ e).2;omega
      have hbx:=(aj.new w 25 #[.int .i64 k,.int .i64 lo,.int .i64 hi,.string tx,.slice A1 ks.length c1]).but Ye.o.but kR;have hc4':=hbx.cell 4;simp at hc4';clear R2 hbx kR;have LN:=Ye.o.but.size;simp at LN;by_cases fs:j<ks.length
      · have YC:aI (fun b=>b<B) w wr:=by
          refine aI.trans (zr.alloc (fun b hb=>Nat.lt_of_lt_of_le hb hBw) _) (Ye.o.but.sameOn fun b hb=>⟨by simp;omega,?_⟩);rintro (e | e)
          · have:=(HL.o.l.lt _ e).1;omega
          · have:=(HL.o.a.lt _ e).1;omega
        have hr:=HKR.o.keep YC (fun _ h=>h);obtain ⟨g,o,cap,Bk,c,hv,FQ,q0,q1,q2,q3,q4,BM⟩:=hr.cellsD fs;cases hv
        have OJ:SizeOf.sizeOf ks[j]<N:=by
          have h1:=N_.o;have h2:=List.sizeOf_lt_of_mem (List.getElem_mem fs);simp only [No.mk.sizeOf_spec] at h1;omega
        have LV:=flL_take fs;have yb:=flL_le (ks:=ks) (j:=j+1);obtain ⟨y,hy⟩:∃ y,ks[j]=y:=⟨_,rfl⟩;rw [hy] at q0 q1 q2 q3 q4 BM OJ LV;rw [LV,List.length_append] at yb;(have hol:out.length=l.length+1+(flL (ks.take j)).length:=by rw [hout.o];simp;omega);have hql:=hq.o;(have hq1:out.length+(flN y).length≤100000000:=by omega);(have xZ:q+(flN y).length≤100000000:=by omega);clear hol hql yb;have Uh:=zh BM;have Qa:=zh LV;have HSJ:=zh OJ;clear hy BM hr YC LV OJ;go_wp2_with fail;refine (IH.o y [.int .i64 y.k,.int .i64 y.fr,.int .i64 y.to,.string y.tx,.slice Bk y.ks.length c] wr B (.slice Al out.length cl) (.slice Aa q ca) out xr yr q _ HSJ.o Uh.o ⟨Ye.o.l,Ye.o.n,Ye.o.a,Ye.o.hb,zb,fun _ h=>.inl h,fun _ h=>.inl h⟩ hq1 xZ).mono ?_;rintro e w2 ⟨wV,ys2,lv2,av2,rfl,Xu⟩;obtain ⟨Am,cm,rfl⟩:=cA Xu.l;obtain ⟨An,cn,rfl⟩:=cA Xu.a;have Z6:=zh (Ye.o.go Xu);clear Xu Uh q0 q1 q2 q3 q4 hc4';go_wp2_with fail
        go_roundg (ks.length - (j+1))
        case measure=>omega
        case rel=>exact ⟨j+1,Am,cm,An,cn,q+(flN y).length,out ++ flN y,wV,ys2,rfl,by omega,by go_num,by simp,rfl,zh (by rw [Qa.o,hout.o];simp),zh (by rw [Qa.o,hq.o];simp;omega),Z6⟩
      · have Eb:ks.length≤j:=by omega
        have ht:ks.take j=ks:=List.take_of_length_le Eb;have HO:=zh hout.o;have HQ:=zh hq.o;rw [ht] at HO HQ;clear fs hout hq ht;go_wp2_with fail
        (try go_step3)
        go_wp2_with fail
        exact bodyPost_ret (v:=.tuple #[.slice Al out.length cl,.slice Aa q ca]) (by simp [results,results30,go_sem]) rfl ⟨xr,yr,_,_,rfl,by
          have h:=Ye.o.off;rw [HO.o,HQ.o] at h;rw [HO.o,HQ.o]
          simpa [Nat.add_assoc,Nat.add_comm 1] using h⟩
def LsN (w w':World) (v:Value) (l:List No):Prop:=∃ xs,w'.ownsRow w.heap.size 25 5 v l.length xs∧aC w' (fun k=>k<w.heap.size) l xs
theorem all_calls {n:No} {cs:List Value} {w:World} (hr:bG w (fun k=>k<w.heap.size) n cs) (hn:(flN n).length≤100000000) :
    Calls prog 18 #[.agg cs.toArray] w fun e w'=>∃ A c,e = .returned (.slice A (flN n).length c)∧LsN w w' (.slice A (flN n).length c) (flN n)∧Below w.heap.size w w':=by
  obtain ⟨A1,c1,rfl,OW⟩:=hr.forms;have HR:=zh hr;clear hr OW;go_enter func18,ntmps18;go_wp2_with fail;have hs:aI (fun k=>k<w.heap.size) w (w.alloc (.cells #[.int .i64 n.k,.int .i64 n.fr,.int .i64 n.to,.string n.tx,.slice A1 n.ks.length c1] 25)):=zr.alloc (fun b hb=>hb) _;have h0:∀ (e:TypeId) (s:Nat) (W:World),W.ownsRow w.heap.size e s (.slice none 0 0) 0 []:=fun e s W=>⟨by simp,.inl ⟨rfl,rfl⟩⟩;refine (flat_any (SizeOf.sizeOf n+1) n _ _ w.heap.size (.slice none 0 0) (.slice none 0 0) [] [] [] 0 0 (Nat.lt_succ_self _) (HR.o.keep hs fun _ h=>h) ⟨h0 _ _ _,aC.nil_,h0 _ _ _,by simp,zb,fun _ h=>.inl h,fun _ h=>.inl h⟩ (by simpa using hn) (by simpa using hn)).mono ?_;rintro e w1 ⟨xs,ys,lv,av,rfl,hF⟩;obtain ⟨Am,cm,rfl⟩:=cA hF.l;obtain ⟨An,cn,rfl⟩:=cA hF.a;have HF:=zh hF.off;clear hF;go_wp2_with fail;go_ret;refine ⟨Am,cm,by simp,⟨xs,by simpa using HF.o.l,by simpa using HF.o.n⟩,HF.o.but.below (fun k hk e=>?_) (Nat.le_refl _)⟩;rcases e with e | e <;> cases e
mutual
theorem sz_fl:∀ n:No,(flN n).length=szN n
  | .mk k f t x ks=>by rw [flN,szN,List.length_cons,szs_fl ks,Nat.add_comm]
theorem szs_fl:∀ l:List No,(flL l).length=szL l
  | []=>by rw [flL,szL];rfl
  | n :: ns=>by rw [flL,szL,List.length_append,sz_fl n,szs_fl ns]
end
theorem wr64 {x:Int} (h:0≤x) (h2:x≤1000):wrap64 x=x:=by
  unfold wrap64;omega
mutual
theorem dseq_has:∀ (n:No) (d k:Nat),d+k≤500→k<hgN n→((d+k:Nat):Int) ∈ qs d n
  | .mk _ _ _ _ ks,d,0,h1,h2=>by rw [qs];exact List.mem_cons_self ..
  | .mk _ _ _ _ ks,d,k+1,h1,h2=>by
    rw [qs,wr64 (by omega) (by omega)];rw [hgN] at h2;have h:=dseqs_has ks (d+1) k (by omega) (by omega);rw [show d+1+k=d+(k+1) by omega] at h;exact List.mem_cons_of_mem _ h
theorem dseqs_has:∀ (l:List No) (d k:Nat),d+k≤500→k<hgL l→((d+k:Nat):Int) ∈ iN d l
  | [],d,k,h1,h2=>by rw [hgL] at h2;omega
  | n :: ns,d,k,h1,h2=>by
    rw [hgL] at h2;rw [iN,List.mem_append];rcases Nat.lt_or_ge k (hgN n) with h | h
    · exact .inl (dseq_has n d k h1 h)
    · exact .inr (dseqs_has ns d k h1 (by omega))
end
theorem depM_ge {l:List Int} {x:Int} (hx:x ∈ l) (h0:0≤x) (h1:x≤500):x+1≤G9 l:=by
  have mono:∀ (l:List Int) (m:Int),m≤l.foldl (fun m d=>if m<wrap64 (d+1) then wrap64 (d+1) else m) m:=by
    intro l
    induction l with
    | nil=>intro m;exact Int.le_refl _
    | cons y l ih=>
      intro m;rw [List.foldl_cons];refine Int.le_trans ?_ (ih _);split <;> omega
  have key:∀ (l:List Int) (m:Int),x ∈ l→x+1≤l.foldl (fun m d=>if m<wrap64 (d+1) then wrap64 (d+1) else m) m:=by
    intro l
    induction l with
    | nil=>intro m h;cases h
    | cons y l ih=>
      intro m h;rw [List.foldl_cons];rcases List.mem_cons.1 h with h | h
      · subst h
        refine Int.le_trans ?_ (mono _ _);rw [wr64 (by omega) (by omega)];split <;> omega
      · exact ih _ h
  exact key l 0 hx
theorem hg_le {n:No} (h:depW n≤200):hgN n≤200:=by
  rcases Nat.lt_or_ge 200 (hgN n) with h1 | h1
  · have h2:=depM_ge (dseq_has n 0 200 (by omega) h1) (by omega) (by omega)
    unfold depW at h;simp only [Nat.zero_add] at h2;have h3:((0:Nat):Int)=0:=rfl;rw [h3] at h2;omega
  · exact h1
def isN (n:No):Bool:=decide (n.k=40∨n.k=42)
def isT (t:Tk):Bool:=decide (t.k=1∨t.k=2)
mutual
theorem nm_fl:∀ n:No,nmN n=((flN n).filter isN).map fun y=>(y.fr,y.tx)
  | .mk k f t x ks=>by
    rw [nmN,flN,nms_fl ks,List.filter_cons];by_cases h:k=40∨k=42
    · rw [if_pos h,if_pos (show isN (.mk k f t x ks)=true from decide_eq_true h)]
      rfl
    · rw [if_neg h,if_neg (show ¬ isN (.mk k f t x ks)=true from fun h9=>h (of_decide_eq_true h9))]
      rfl
theorem nms_fl:∀ l:List No,nmL l=((flL l).filter isN).map fun y=>(y.fr,y.tx)
  | []=>by rw [nmL,flL];rfl
  | n :: ns=>by rw [nmL,flL,nm_fl n,nms_fl ns,List.filter_append,List.map_append]
end
theorem tks_fl {ts:List Tk}:∀ {i:Nat},i≤ts.length→tks ts 0 i=((ts.take i).filter isT).map fun t=>(t.fr,t.tx)
  | 0,_=>by rw [tks_nil];rfl
  | i+1,h=>by
    rw [← tks_app (Nat.zero_le i) (Nat.le_succ i),tks_fl (by omega),tks_one,List.take_succ_eq_append_getElem (by omega),List.filter_append,List.map_append];(have e:ap ts i=ts[i]:=by simp [ap,List.getElem?_eq_getElem (show i<ts.length by omega)]);rw [e,tk1];by_cases hk:ts[i].k=1∨ts[i].k=2
    · rw [if_pos hk,List.filter_cons,if_pos (show isT ts[i]=true from decide_eq_true hk)]
      rfl
    · rw [if_neg hk,List.filter_cons,if_neg (show ¬ isT ts[i]=true from fun h9=>hk (of_decide_eq_true h9))]
      rfl
def hit (t:Tk) (y:No):Bool:=decide ((y.k=40∨y.k=42)∧y.fr=t.fr∧y.tx=t.tx)
def cntT (l:List Tk):Nat:=(l.filter isT).length
def cntN (l:List No):Nat:=(l.filter isN).length
theorem cntT_take {l:List Tk} {j:Nat} (h:j<l.length):cntT (l.take (j+1))=cntT (l.take j)+if l[j].k=1∨l[j].k=2 then 1 else 0:=by
  unfold cntT;rw [List.take_succ_eq_append_getElem h,List.filter_append,List.length_append,List.filter_cons];by_cases e:l[j].k=1∨l[j].k=2
  · rw [if_pos (show isT l[j]=true from decide_eq_true e),if_pos e];rfl
  · rw [if_neg (show ¬ isT l[j]=true from fun h9=>e (of_decide_eq_true h9)),if_neg e];rfl
theorem cntN_take {l:List No} {j:Nat} (h:j<l.length):cntN (l.take (j+1))=cntN (l.take j)+if l[j].k=40∨l[j].k=42 then 1 else 0:=by
  unfold cntN;rw [List.take_succ_eq_append_getElem h,List.filter_append,List.length_append,List.filter_cons];by_cases e:l[j].k=40∨l[j].k=42
  · rw [if_pos (show isN l[j]=true from decide_eq_true e),if_pos e];rfl
  · rw [if_neg (show ¬ isN l[j]=true from fun h9=>e (of_decide_eq_true h9)),if_neg e];rfl
theorem cntT_le {l:List Tk}:cntT l≤l.length:=List.length_filter_le _ _
theorem cntN_le {l:List No}:cntN l≤l.length:=List.length_filter_le _ _
theorem any_take {t:Tk} {l:List No} {j:Nat} (h:j<l.length):(l.take (j+1)).any (hit t)=((l.take j).any (hit t) || hit t l[j]):=by
  rw [List.take_succ_eq_append_getElem h,List.any_append,List.any_cons,List.any_nil,Bool.or_false]
structure NamesOk (ts:List Tk) (l:List No):Prop where
  len:l.length≤100000000
  tl:ts.length≤4002
  hit:∀ i (h:i<ts.length),ts[i].k=1∨ts[i].k=2→l.any (hit ts[i])=true
  cnt:cntN l=cntT ts
theorem names_ok {s:ByteArray} {n:No} (hs:s.size≤4000) (h:tG s=some (.ok n)):∃ ts,ee s = .ok ts∧NamesOk ts (flN n):=by
  obtain ⟨ts,h1,-,-,h2,h3,h4⟩:=fileM_v h;obtain ⟨-,LO,hl,eN⟩:=(jK h1).2.wt;obtain ⟨m,z,e,hz,hm,-⟩:=(jK h1).2;have h5:=hg_le h4;have fz:isT z=false:=by unfold isT;rw [hz];decide
  have e1:(ts.take (ts.length - 1)).filter isT=ts.filter isT:=by
    rw [e];simp [fz]
  rw [tks_fl (by omega),e1,nm_fl] at h2;refine ⟨ts,h1,?_,by omega,fun i hi hk=>?_,?_⟩
  · rw [sz_fl]
    have h6:szN n≤8 * hgN n * ts.length:=h3;have h7:8 * hgN n * ts.length≤8 * 200 * ts.length:=Nat.mul_le_mul_right _ (by omega);omega
  · have h6:(ts[i].fr,ts[i].tx) ∈ (ts.filter isT).map fun t=>(t.fr,t.tx):=List.mem_map.2 ⟨ts[i],List.mem_filter.2 ⟨List.getElem_mem hi,decide_eq_true hk⟩,rfl⟩
    rw [← h2] at h6;obtain ⟨y,h7,h8⟩:=List.mem_map.1 h6;obtain ⟨h9,oa⟩:=List.mem_filter.1 h7;rw [List.any_eq_true];have U_:=(Prod.mk.injEq ..).mp h8;exact ⟨y,h9,decide_eq_true ⟨of_decide_eq_true oa,U_.1,U_.2⟩⟩
  · unfold cntN cntT
    have h6:=congrArg List.length h2
    rwa [List.length_map,List.length_map] at h6
set_option maxRecDepth 100000
set_option maxHeartbeats 8000000
section
variable {w w':World} {base g at_:Nat} {s:ByteArray} {l:List Tk}
theorem ey.cellF (h:ey base w g s at_ l):w.cell? ⟨g,4,none⟩=some (.int .i64 0)∧w.cell? ⟨g,5,none⟩=some (.string ⟨#[]⟩)∧w.cell? ⟨g,6,none⟩=some (.int .i64 0):=by
  obtain ⟨A,c,R,m,d,xs,hm⟩:=h;have q4:=hm.blk.cell 4;have q5:=hm.blk.cell 5;have q6:=hm.blk.cell 6;simp at q4 q5 q6;exact ⟨q4,q5,q6⟩
theorem rQ {s:ByteArray} {p:Nat} {x y:UInt8} {t:List UInt8} (hp:p<s.size) (hd:s.data.toList.drop p=x :: t) (h0:y≠0):qv s p ⟨#[47,y]⟩=true↔x=47∧t.headD 0=y:=by
  rw [nj (by omega),hd];have h1:(⟨#[47,y]⟩:ByteArray).size=2:=rfl;have h2:(⟨#[47,y]⟩:ByteArray).data.toList=[47,y]:=rfl;rw [h1,h2];cases t with
  | nil=>simp;intro _ e;exact h0 e.symm
  | cons z t=>simp
theorem vs {x:UInt8} {t:List UInt8}:d8 x.toNat=true↔0<dq (x :: t):=by
  rw [gE]
  show ly x=true↔_
  split
  · rename_i h
    exact ⟨fun _=>by omega,fun _=>h⟩
  · rename_i h
    exact ⟨fun h1=>absurd h1 h,fun h1=>by omega⟩
theorem Bf {ts:List Tk} (hg:w.heap.size=g) (hs:s.size≤65536) (hv:gp s s.size 0=true) (hr:aX (s.size+1) s.data.toList 0 [] = .ok ts) :
    Calls prog 27 #[.string s] w fun e w'=>∃ q,e = .returned (.pointer (some ⟨g,0,none⟩))∧ey g w' g s q ts∧Below g w w':=by
  have HR:=zh hr;have P9:=zh hv;(have uE:(s.size:Int)≤65536:=by omega);have eN:s.data.toList.length=s.size:=lD s;have qN:Hd (ey w.heap.size (w.alloc (.cells #[.string s,.int .i64 0,.slice none 0 0,.slice none 0 0,.int .i64 0,.string ⟨#[]⟩,.int .i64 0] 59)) w.heap.size s 0 []):=zh ⟨none,0,none,0,0,[],aj.new _ _ _,World.ownsRow_nil _ _ _ _,World.ownsRow_nil _ _ _ _,Nat.le_refl _,Nat.le_refl _⟩;have cT:Hd (Below w.heap.size w (w.alloc (.cells #[.string s,.int .i64 0,.slice none 0 0,.slice none 0 0,.int .i64 0,.string ⟨#[]⟩,.int .i64 0] 59))):=zh ((Below.refl _ _).alloc (Nat.le_refl _) _);have HG:=zh hg;(have AF:g≤w.heap.size:=by omega);have Vt:=zh AF;clear hr hv hg AF;go_enter func27,ntmps27;go_wp2_with fail;refine (kX (by omega)).mono ?_;rintro e w1 ⟨rfl,hw⟩;subst w1;rw [P9.o];obtain ⟨W0,sG⟩:∃ W0,w.alloc (.cells #[.string s,.int .i64 0,.slice none 0 0,.slice none 0 0,.int .i64 0,.string ⟨#[]⟩,.int .i64 0] 59)=W0:=⟨_,rfl⟩;rw [sG] at qN cT;rw [sG];rw [HG.o] at qN cT;(try rw [HG.o]);have L8:g<W0.heap.size:=qN.o.cells.2.2.2.1;obtain ⟨q0,q1,qf,ql,sF⟩:=qN.o.cells;clear sG P9;go_wp2_with fail
  (try go_step3)
  go_wp2_with fail
  go_loopg [] (s.size+1) (fun f wr=>∃ (p:Nat) (l:List Tk),s.size+1≤f+p∧p≤s.size∧l.length≤p∧Hd (ey g wr g s p l)∧Hd (Below g w wr)∧Hd (aX f (s.data.toList.drop p) p l = .ok ts))
  case atStart=>exact ⟨0,[],Nat.le_refl _,Nat.zero_le _,Nat.le_refl _,qN,cT,HR⟩
  case round=>
    obtain ⟨p,l,RS,cq,YN,HS,HB,HT⟩:=hrel;(try rename World=>wr);clear q0 q1 qf ql sF;obtain ⟨q0,q1,qf,ql,sF⟩:=HS.o.cells;obtain ⟨q4,-,-⟩:=HS.o.cellF;clear qN cT HR L8;have Y1:=HB.o.size;have AF:=Vt.o;(have Ef:g≤wr.heap.size:=by omega);cases gk with
    | zero=>exact absurd RS (by omega)
    | succ f=>
      (have D5:(p:Int)≤(s.size:Int):=by omega);by_cases hp:p<s.size
      case neg=>
        obtain rfl:p=s.size:=by omega
        have LU:bB s.size l ++ [⟨7,s.size,s.size,⟨#[]⟩⟩]=ts:=by
          have h1:=HT.o;rw [List.drop_eq_nil_of_le (by omega)] at h1;exact Except.ok.inj h1
        have TZ:=zh LU;have tB:=fE (s.size:Int) l;clear LU HT;go_wp2_with fail;refine (j' (base:=g) HS.o (by omega) Ef).mono ?_;rintro e w4 ⟨rfl,rD,dB⟩;have iW:=zh rD;have bu:=zh (HB.o.trans dB);clear rD dB q0 q1 qf ql q4;obtain ⟨q0,q1,qf,ql,-⟩:=iW.o.cells;obtain ⟨q4,-,-⟩:=iW.o.cellF;go_wp2_with fail;refine (dR (base:=g) iW.o (by omega)).mono ?_;rintro e w5 ⟨rfl,fu,dz⟩;have dI:=zh fu;have a8:=zh (bu.o.trans dz);clear fu dz;go_wp2_with fail;go_ret;exact ⟨_,rfl,by rw [← TZ.o];exact dI.o,a8.o⟩
      case pos=>
        obtain ⟨x,hx⟩:∃ x,s[p]=x:=⟨_,rfl⟩;(have fs:(p:Int)<(s.size:Int):=by omega);obtain ⟨t,ht⟩:∃ t,s.data.toList.drop (p+1)=t:=⟨_,rfl⟩
        have d9:s.data.toList.drop p=x :: t:=by
          rw [List.drop_eq_getElem_cons (by omega),Array.getElem_toList,ht];exact congrArg (· :: t) hx
        have HX:=zh hx;have mJ:=zh d9;have Fi:=zh ht;rw [d9] at HT
        have GO:t.length+1+p=s.size:=by
          have h1:=congrArg List.length d9;rw [List.length_drop,eN,List.length_cons] at h1;omega
        have yD:Hd (∀ k,(x :: t).drop k=s.data.toList.drop (p+k)):=zh (fun k=>by rw [← d9,List.drop_drop]);clear ht d9;by_cases oa:x=10
        case pos=>
          subst oa;have fH:Hd (aX f t (p+1) (bB p l) = .ok ts):=zh (by have h1:=HT.o;unfold aX at h1;rw [if_pos rfl] at h1;exact h1);clear HT;have tB:=fE (p:Int) l;(have r_:(p:Int)+1≤(s.size:Int):=by omega);go_wp2_with fail;refine (j' (base:=g) HS.o (by omega) Ef).mono ?_;rintro e w4 ⟨rfl,rD,dB⟩;have iW:=zh rD;have bu:=zh (HB.o.trans dB);clear rD dB q0 q1 qf ql q4;obtain ⟨q0,q1,qf,ql,-⟩:=iW.o.cells;have dI:Hd (ey g (w4.setCell ⟨g,1,none⟩ (.int .i64 (p+1))) g s (p+1) (bB p l)):=zh (by have h9:=iW.o.to_ (p:=p+1) (by omega);simpa using h9);have a8:Hd (Below g w (w4.setCell ⟨g,1,none⟩ (.int .i64 (p+1)))):=zh (bu.o.setCell sF _);go_wp2_with fail
          go_roundg f
          case measure=>omega
          case rel=>exact ⟨p+1,_,by omega,by omega,by omega,dI,a8,zh (by rw [Fi.o];exact fH.o)⟩
        case neg=>
        have f10:((x.toNat:Int) == 10)=false:=du oa;by_cases r9:x=32∨x=9∨x=13
        case pos=>
          have fH:Hd (aX f t (p+1) l = .ok ts):=zh (by have h1:=HT.o;unfold aX at h1;rw [if_neg oa,if_pos r9] at h1;exact h1);clear HT;(have r_:(p:Int)+1≤(s.size:Int):=by omega);have dI:Hd (ey g (wr.setCell ⟨g,1,none⟩ (.int .i64 (p+1))) g s (p+1) l):=zh (by have h9:=HS.o.to_ (p:=p+1) (by omega);simpa using h9);have a8:Hd (Below g w (wr.setCell ⟨g,1,none⟩ (.int .i64 (p+1)))):=zh (HB.o.setCell sF _);rcases r9 with rfl | rfl | rfl
          all_goals
            go_wp2_with fail
            go_roundg f
            case measure=>omega
            case rel=>exact ⟨p+1,l,by omega,by omega,by omega,dI,a8,zh (by rw [Fi.o];exact fH.o)⟩
        case neg=>
        have f32:((x.toNat:Int) == 32)=false:=du fun e=>r9 (.inl e);have f9:((x.toNat:Int) == 9)=false:=du fun e=>r9 (.inr (.inl e));have f13:((x.toNat:Int) == 13)=false:=du fun e=>r9 (.inr (.inr e));have KU:=zh r9;have K1:=zh oa;clear oa r9;go_wp2_with fail;refine (eU (t:=⟨#[47,47]⟩) HS.o cq (by omega) (by decide)).mono ?_;rintro e w2 ⟨rfl,cK⟩;have fh:=zh (HS.o.below cK);have aE:=zh (HB.o.trans (cK.mono Ef));(have JF:g≤w2.heap.size:=by have h9:=cK.size;omega);clear cK q0 q1 qf ql q4;by_cases AG:qv s p ⟨#[47,47]⟩=true
        case pos=>
          (have hc:x=47∧(t.headD 0=47∨t.headD 0=42):=by have h1:=(rQ hp mJ.o (by decide)).1 AG;exact ⟨h1.1,.inl h1.2⟩);have HC:=zh hc;clear hc;have mL:Hd ((match dK (x :: t) with | none=>Except.error (p:Int) | some n=>aX f ((x :: t).drop n) (p+n) (if 0≤Lib.indexByte ((x :: t).take n) 10 then bB p l else l)) = .ok ts):=zh (by have h1:=HT.o;unfold aX at h1;rw [if_neg K1.o,if_neg KU.o,if_pos HC.o] at h1;exact h1);clear HT
          obtain ⟨n,ia⟩:∃ n,dK (x :: t)=some n:=by
            cases ia:dK (x :: t) with
            | none=>have h1:=mL.o;rw [ia] at h1;cases h1
            | some n=>exact ⟨n,rfl⟩
          have xK:Hd (dK (s.data.toList.drop p)=some n):=zh (by rw [mJ.o];exact ia);have fH:Hd (aX f (s.data.toList.drop (p+n)) (p+n) (if 0≤Lib.indexByte ((s.data.toList.drop p).take n) 10 then bB p l else l) = .ok ts):=zh (by have h1:=mL.o;rw [ia] at h1;simp only at h1;rw [yD.o] at h1;rw [mJ.o];exact h1);clear mL;have tB:=fE (p:Int) l;obtain ⟨AE,fT⟩:=lF ia ⟨t,by rw [HC.o.1]⟩;simp only [List.length_cons] at fT;have Ib:=zh AG;obtain ⟨l2,kB⟩:∃ l2,(if 0≤Lib.indexByte ((s.data.toList.drop p).take n) 10 then bB p l else l)=l2:=⟨_,rfl⟩;(have OU:l2.length≤l.length+1:=by rw [← kB];split <;> omega);rw [kB] at fH;have AA:=zh kB;clear ia kB;have wQ:=0;clear wQ;rw [AG];clear AG;(have jM:p+2≤s.size:=by obtain ⟨h9,-,-⟩:=(lj cq).1 Ib.o;omega);go_wp2_with fail;refine (tq (base:=g) rfl fh.o (by omega) JF hs (by omega) Ib.o xK.o).mono ?_;rw [AA.o];rintro e w5 ⟨rfl,fu,dz⟩;have dI:=zh fu;have a8:=zh (aE.o.trans dz);clear fu dz;go_wp2_with fail
          go_roundg f
          case measure=>omega
          case rel=>exact ⟨p+n,l2,by omega,by omega,by omega,dI,a8,zh fH.o⟩
        case neg=>
        rw [Bool.eq_false_iff.2 AG];go_wp2_with fail;refine (eU (t:=⟨#[47,42]⟩) fh.o cq (by omega) (by decide)).mono ?_;rintro e w3 ⟨rfl,jG⟩;have p8:=zh (fh.o.below jG);have be:=zh (aE.o.trans (jG.mono JF));(have l5:g≤w3.heap.size:=by have h9:=jG.size;omega);clear jG;by_cases wQ:qv s p ⟨#[47,42]⟩=true
        case pos=>
          clear AG;(have hc:x=47∧(t.headD 0=47∨t.headD 0=42):=by have h1:=(rQ hp mJ.o (by decide)).1 wQ;exact ⟨h1.1,.inr h1.2⟩);have HC:=zh hc;clear hc;have mL:Hd ((match dK (x :: t) with | none=>Except.error (p:Int) | some n=>aX f ((x :: t).drop n) (p+n) (if 0≤Lib.indexByte ((x :: t).take n) 10 then bB p l else l)) = .ok ts):=zh (by have h1:=HT.o;unfold aX at h1;rw [if_neg K1.o,if_neg KU.o,if_pos HC.o] at h1;exact h1);clear HT
          obtain ⟨n,ia⟩:∃ n,dK (x :: t)=some n:=by
            cases ia:dK (x :: t) with
            | none=>have h1:=mL.o;rw [ia] at h1;cases h1
            | some n=>exact ⟨n,rfl⟩
          have xK:Hd (dK (s.data.toList.drop p)=some n):=zh (by rw [mJ.o];exact ia);have fH:Hd (aX f (s.data.toList.drop (p+n)) (p+n) (if 0≤Lib.indexByte ((s.data.toList.drop p).take n) 10 then bB p l else l) = .ok ts):=zh (by have h1:=mL.o;rw [ia] at h1;simp only at h1;rw [yD.o] at h1;rw [mJ.o];exact h1);clear mL;have tB:=fE (p:Int) l;obtain ⟨AE,fT⟩:=lF ia ⟨t,by rw [HC.o.1]⟩;simp only [List.length_cons] at fT;have Ib:=zh wQ;obtain ⟨l2,kB⟩:∃ l2,(if 0≤Lib.indexByte ((s.data.toList.drop p).take n) 10 then bB p l else l)=l2:=⟨_,rfl⟩;(have OU:l2.length≤l.length+1:=by rw [← kB];split <;> omega);rw [kB] at fH;have AA:=zh kB;clear ia kB;rw [wQ];clear wQ;(have jM:p+2≤s.size:=by obtain ⟨h9,-,-⟩:=(lj cq).1 Ib.o;omega);go_wp2_with fail;refine (tn (base:=g) rfl p8.o (by omega) l5 hs Ib.o cq xK.o).mono ?_;rw [AA.o];rintro e w5 ⟨rfl,fu,dz⟩;have dI:=zh fu;have a8:=zh (be.o.trans dz);clear fu dz;go_wp2_with fail
          go_roundg f
          case measure=>omega
          case rel=>exact ⟨p+n,l2,by omega,by omega,by omega,dI,a8,zh fH.o⟩
        case neg=>
        have HC:Hd (¬ (x=47∧(t.headD 0=47∨t.headD 0=42))):=zh (fun h=>h.2.elim (fun e=>AG ((rQ hp mJ.o (by decide)).2 ⟨h.1,e⟩)) (fun e=>wQ ((rQ hp mJ.o (by decide)).2 ⟨h.1,e⟩)));rw [Bool.eq_false_iff.2 wQ];clear AG wQ;obtain ⟨n,hn⟩:∃ n,dq (x :: t)=n:=⟨_,rfl⟩;(have Jt:n≤t.length+1:=by have h1:=kZ (l:=x :: t);rw [hn] at h1;simpa using h1);have ud:=vs (x:=x) (t:=t);rw [hn] at ud;have mL:Hd ((if 60<n then Except.error (p:Int) else if 0<n then aX f ((x :: t).drop n) (p+n) (l ++ [⟨if j7 (bs ((x :: t).take n))=true then 4 else 1,p,p+n,bs ((x :: t).take n)⟩]) else if dZ x=true then (match gl (x :: t) with | none=>.error (p:Int) | some n=>aX f ((x :: t).drop n) (p+n) (l ++ [⟨2,p,p+n,bs ((x :: t).take n)⟩])) else if x=34 then (match bP p t (p+1) [] with | .error e=>.error e | .ok (q,tx)=>aX f ((x :: t).drop (q - p)) q (l ++ [⟨3,p,q,bs tx⟩])) else if x=59 then aX f t (p+1) (l ++ [⟨6,p,p+1,⟨#[59]⟩⟩]) else if ce (bs (x :: t))=0 then .error (p:Int) else aX f ((x :: t).drop (ce (bs (x :: t)))) (p+ce (bs (x :: t))) (l ++ [⟨5,p,p+ce (bs (x :: t)),bs ((x :: t).take (ce (bs (x :: t))))⟩])) = .ok ts):=zh (by have h1:=HT.o;unfold aX at h1;rw [if_neg K1.o,if_neg KU.o,if_neg HC.o,hn] at h1;exact h1);have HN:Hd (dq (s.data.toList.drop p)=n):=zh (by rw [mJ.o];exact hn);clear HT hn
        have JM:n≤60:=by
          rcases Nat.lt_or_ge 60 n with h | h
          · have h1:=mL.o;rw [if_pos h] at h1;cases h1
          · exact h
        have kp:=zh mL.o;rw [if_neg (by omega)] at kp;clear mL;go_wp2_with fail;refine cO.mono ?_;rintro e w1 ⟨rfl,hw⟩;subst w1;by_cases my:d8 x.toNat=true
        case pos=>
          have D7:=ud.1 my;rw [if_pos D7] at kp;rw [my];clear my ud;go_wp2_with fail;refine (tw (base:=g) rfl p8.o (by omega) l5 (by omega) HN.o D7 JM).mono ?_;rintro e w5 ⟨rfl,fu,dz⟩;have dI:=zh fu;have a8:=zh (be.o.trans dz);clear fu dz;go_wp2_with fail
          go_roundg f
          case measure=>omega
          case rel=>exact ⟨p+n,_,by omega,by omega,(by simp;omega),dI,a8,zh (by have h1:=kp.o;rw [yD.o] at h1;rw [mJ.o];exact h1)⟩
        case neg=>
        rw [Bool.eq_false_iff.2 my];rw [if_neg (fun h=>my (ud.2 h))] at kp;clear my ud Jt JM;go_wp2_with fail;refine dW.mono ?_;rintro e w1 ⟨rfl,hw⟩;subst w1;by_cases pe:gd x.toNat=true
        case pos=>
          rw [pe];rw [if_pos (show dZ x=true from pe)] at kp
          obtain ⟨k,ia⟩:∃ k,gl (x :: t)=some k:=by
            cases ia:gl (x :: t) with
            | none=>have h1:=kp.o;rw [ia] at h1;cases h1
            | some k=>exact ⟨k,rfl⟩
          have xK:Hd (gl (s.data.toList.drop p)=some k):=zh (by rw [mJ.o];exact ia);obtain ⟨AE,fT⟩:=rj ia pe;simp only [List.length_cons] at fT;have fH:Hd (aX f (s.data.toList.drop (p+k)) (p+k) (l ++ [⟨2,p,p+k,bs ((s.data.toList.drop p).take k)⟩]) = .ok ts):=zh (by have h1:=kp.o;rw [ia] at h1;simp only at h1;rw [yD.o] at h1;rw [mJ.o];exact h1);clear kp ia pe;go_wp2_with fail;refine (pP (base:=g) rfl p8.o (by omega) l5 (by omega) xK.o AE).mono ?_;rintro e w5 ⟨rfl,fu,dz⟩;have dI:=zh fu;have a8:=zh (be.o.trans dz);clear fu dz;go_wp2_with fail
          go_roundg f
          case measure=>omega
          case rel=>exact ⟨p+k,_,by omega,by omega,(by simp;omega),dI,a8,zh (by simpa using fH.o)⟩
        case neg=>
        rw [Bool.eq_false_iff.2 pe];rw [if_neg (show ¬ dZ x=true from pe)] at kp;clear pe;by_cases sc:x=34
        case pos=>
          subst sc;rw [if_pos rfl] at kp
          obtain ⟨q,tx,ia⟩:∃ q tx,bP p t (p+1) [] = .ok (q,tx):=by
            cases ia:bP p t (p+1) [] with
            | error e=>have h1:=kp.o;rw [ia] at h1;cases h1
            | ok qt=>exact ⟨qt.1,qt.2,rfl⟩
          obtain ⟨AE,fT⟩:=dE _ _ _ ia;have xK:Hd (bP p (s.data.toList.drop (p+1)) (p+1) [] = .ok (q,tx)):=zh (by rw [Fi.o];exact ia);have fH:Hd (aX f (s.data.toList.drop q) q (l ++ [⟨3,p,q,bs tx⟩]) = .ok ts):=zh (by have h1:=kp.o;rw [ia] at h1;simp only at h1;rw [yD.o,show p+(q - p)=q from by omega] at h1;exact h1);clear kp ia;go_wp2_with fail;refine (td (base:=g) p8.o (by omega) hs hp l5 xK.o).mono ?_;rintro e w5 ⟨rfl,fu,dz⟩;have dI:=zh fu;have a8:=zh (be.o.trans dz);clear fu dz;go_wp2_with fail
          go_roundg f
          case measure=>omega
          case rel=>exact ⟨q,_,by omega,by omega,(by simp;omega),dI,a8,zh fH.o⟩
        case neg=>
        have Sj:((x.toNat:Int) == 34)=false:=du sc;rw [if_neg sc] at kp;by_cases FT:x=59
        case pos=>
          have fH:Hd (aX f (s.data.toList.drop (p+1)) (p+1) (l ++ [⟨6,p,p+1,⟨#[59]⟩⟩]) = .ok ts):=zh (by have h1:=kp.o;rw [if_pos FT] at h1;rw [Fi.o];exact h1);clear kp;go_wp2_with fail;refine (tm (base:=g) rfl p8.o (by omega) l5 (by omega) hp (by rw [HX.o];exact FT)).mono ?_;rintro e w5 ⟨rfl,fu,dz⟩;have dI:=zh fu;have a8:=zh (be.o.trans dz);clear fu dz;go_wp2_with fail
          go_roundg f
          case measure=>omega
          case rel=>exact ⟨p+1,_,by omega,by omega,(by simp;omega),dI,a8,zh (by simpa using fH.o)⟩
        case neg=>
        rw [if_neg FT] at kp;obtain ⟨k,hk⟩:∃ k,ce (bs (x :: t))=k:=⟨_,rfl⟩;rw [hk] at kp
        have vA:k≠0:=by
          rintro rfl;have h1:=kp.o;rw [if_pos rfl] at h1;cases h1
        have OW:k≤t.length+1:=by
          have h1:=qX (s:=bs (x :: t)) (by show 0<(x :: t).toArray.size;simp);rw [hk] at h1;(have h2:(bs (x :: t)).size=t.length+1:=by show (x :: t).toArray.size=_;simp);omega
        have HK:Hd (ce (bs (s.data.toList.drop p))=k):=zh (by rw [mJ.o];exact hk);have fH:Hd (aX f (s.data.toList.drop (p+k)) (p+k) (l ++ [⟨5,p,p+k,bs ((s.data.toList.drop p).take k)⟩]) = .ok ts):=zh (by have h1:=kp.o;rw [if_neg vA,yD.o] at h1;rw [mJ.o];exact h1);clear kp hk;go_wp2_with fail;refine (tj (base:=g) rfl p8.o (by omega) l5 (by omega) hp (by rw [HX.o];exact FT) HK.o vA).mono ?_;rintro e w5 ⟨rfl,fu,dz⟩;have dI:=zh fu;have a8:=zh (be.o.trans dz);clear fu dz;go_wp2_with fail
        go_roundg f
        case measure=>omega
        case rel=>exact ⟨p+k,_,by omega,by omega,(by simp;omega),dI,a8,zh (by simpa using fH.o)⟩
theorem IK {ts:List Tk} (h:ee s = .ok ts):s.size≤65536∧gp s s.size 0=true∧aX (s.size+1) s.data.toList 0 [] = .ok ts:=by
  unfold ee at h;split at h
  · cases h
  rename_i h1
  refine ⟨by omega,?_,?_⟩
  · cases hv:gp s s.size 0 with
    | true=>rfl
    | false=>exact absurd (Or.inr hv) h1
  · cases hq:aX (s.size+1) s.data.toList 0 [] with
    | error e=>rw [hq] at h;cases h
    | ok l=>
      rw [hq] at h;have h2:(Except.ok l:Except (Int×Int) (List Tk))=Except.ok ts:=h;cases h2;rfl
theorem Bi {W:World} {b:Nat} {v c0 c1 c2 x0 x1 x4 x5 x6 x7 x8 x9 uP uO M5 K6 K5:Value} (h':aj W b 27 #[c0,c1,c2]) :
    (results Tryz.f13 #[x0,x1,v,.pointer (some ⟨b,0,none⟩),x4,x5,x6,x7,x8,x9,uP,uO,M5,K6,K5]).run prog W = .ok (.tuple #[v,.agg #[c0,c1,c2]]) W:=by
  have we:=h'.cell 0;have v_:=h'.cell 1;have v8:=h'.cell 2;simp at we v_ v8;simp [results,results13,go_sem,we,v_,v8]
theorem wX {ts:List Tk} (hr:ee s = .ok ts) :
    Calls prog 13 #[.string s] w (J7 w (.ok ts)):=by
  obtain ⟨hs,hv,hl⟩:=IK hr;have X7:Hd (∀ (w:World) (g:Nat),w.heap.size=g→Calls prog 27 #[.string s] w fun e w'=>∃ q,e = .returned (.pointer (some ⟨g,0,none⟩))∧ey g w' g s q ts∧Below g w w'):=zh fun w g hg=>Bf hg hs hv hl;clear hr hv hl hs;go_enter func13,ntmps13;go_wp2_with fail;refine (X7.o _ (w.heap.size+1) (by simp)).mono ?_;rintro e w1 ⟨q,rfl,hS,cB⟩;have kb:Hd (Below w.heap.size w w1):=zh (((Below.refl _ _).alloc (Nat.le_refl _) _).trans (cB.mono (Nat.le_succ _)));(have nY:(w.alloc (.cells #[.int .i64 0,.string ⟨#[]⟩,.int .i64 0] 27)).heap.size=w.heap.size+1:=by simp);rw [← nY] at cB;have jG:Hd (aj w1 w.heap.size 27 #[.int .i64 0,.string ⟨#[]⟩,.int .i64 0]):=zh ((aj.new _ _ _).below cB (by simp));clear nY;obtain ⟨A,c,R,m,d,xs,hm⟩:=hS;have D9:=jG.o.lt;have Ee:=jG.o.cell 0;have Ed:=jG.o.cell 1;have Ec:=jG.o.cell 2;have iL:=jG.o.frozen;simp at Ee Ed Ec;have G0:=hm.blk.cell 2;have R2:=hm.blk.cell 4;have Y0:=hm.blk.cell 5;have YZ:=hm.blk.cell 6;have ya:=hm.blk.lt;simp at G0 R2 Y0 YZ;have HM:=zh hm;clear hm cB;go_wp2_with fail
  go_region
  all_goals
    go_wp2_with fail;refine bodyPost_ret (Bi (((jG.o.set_ 0 _).set_ 1 _).set_ 2 _).drew) rfl ?_;refine ⟨(((kb.o.setCell (Nat.le_refl _) _).setCell (Nat.le_refl _) _).setCell (Nat.le_refl _) _).drew,A,c,rfl,?_⟩;exact rh (ownsRow_setCell_below (ownsRow_setCell_below (ownsRow_setCell_below HM.o.tok (by simp) _) (by simp) _) (by simp) _) (by simp)
end
set_option maxRecDepth 100000
set_option maxHeartbeats 8000000
theorem bs_ne {x y:ByteArray} (h:x≠y):(x.toList == y.toList)=false:=by
  rw [beq_eq_false_iff_ne];intro e;rw [Lib.toList_data,Lib.toList_data] at e;exact h (ByteArray.ext (Array.ext' e))
section
variable {w:World}
theorem names_true {s:ByteArray} (hs:s.size≤9223372036854775807) (hT:Lib.Utf8Tabs 0 1 w) (h3:3≤w.heap.size) {mm:Int} (n_:w.cell? ⟨2,0,none⟩=some (.int .i64 mm)) :
    Calls prog 7 #[.string s] w fun e w'=>e = .returned (.bool true)∧Below w.heap.size w w':=by
  obtain ⟨r,hr⟩:=EF s;have HT:=zh hT;have Ay:=zh n_;have HR:=zh hr;clear hT n_ hr;by_cases JH:4000<s.size
  · have R5:decide ((4000:Int)<(s.size:Int))=true:=by simp;omega
    (have U4:decide (4000<s.size)=true:=by simp;omega);go_enter func7,ntmps7;go_wp2_with fail;refine (Cw HT.o h3 Ay.o).mono ?_;rintro e w1 ⟨rfl,cB⟩;go_wp2_with fail;go_ret;exact ⟨rfl,cB⟩
  · have R5:decide ((4000:Int)<(s.size:Int))=false:=by simp;omega
    (have U4:decide (4000<s.size)=false:=by simp;omega);(have R3:¬ (4000:Int)<(s.size:Int):=by omega);go_enter func7,ntmps7;go_wp2_with fail;refine (vJ (by omega) HT.o h3 Ay.o HR.o).mono ?_;rintro e w1 ⟨cB,ua⟩;have a7:=zh cB;have et:=cB.size;clear cB;cases r with
    | error cp=>
      obtain ⟨c,p⟩:=cp;obtain rfl:=ua;have hc:=EG HR.o;(have K9:decide (c=0)=false:=by simpa using hc);(have hcb:(c == 0)=false:=by simpa using hc);unfold dD;go_wp2_with fail;have hB:=(a7.o.alloc (by omega) (.cells #[.int .i64 0,.int .i64 0,.int .i64 0,.string ⟨#[]⟩,.slice none 0 0] 25)).alloc (by simp;omega) (.cells #[.int .i64 c,.string ⟨#[]⟩,.int .i64 p] 27);refine (Cw (Utf8Tabs_below HT.o hB) (by simp;omega) ((hB.cell (p:=⟨2,0,none⟩) (by show 2<_;omega)).trans Ay.o)).mono ?_;rintro e w2 ⟨rfl,cK⟩;have aE:=zh cK;clear cK;go_wp2_with fail;go_ret;exact ⟨rfl,hB.trans (aE.o.mono (by simp;omega))⟩
    | ok n=>
      obtain ⟨A',c',rfl,ae⟩:=ua;obtain ⟨ts,LU,aF⟩:=names_ok (by omega) HR.o;have TZ:=zh LU;have Vq:=zh aF;have g_:=zh ae;clear LU aF ae JH R5 U4 R3;go_wp2_with fail;have hB:=(a7.o.alloc (by omega) (.cells #[.int .i64 n.k,.int .i64 n.fr,.int .i64 n.to,.string n.tx,.slice A' n.ks.length c'] 25)).alloc (by simp;omega) (.cells #[.int .i64 0,.string ⟨#[]⟩,.int .i64 0] 27);refine (all_calls (n:=n) (cs:=[.int .i64 n.k,.int .i64 n.fr,.int .i64 n.to,.string n.tx,.slice A' n.ks.length c']) (bG.mk_ (g_.o.keep (fun b hb=>(Below.heap_alloc _ _ _ (by have:=hb.2;simp;omega)).trans (Below.heap_alloc _ _ _ hb.2)) fun b hb=>by have:=hb.2;simp;omega)) Vq.o.len).mono ?_;rintro e w3 ⟨A2,c2,rfl,⟨xs,g1,g2⟩,jG⟩;obtain ⟨L,hL⟩:∃ L,flN n=L:=⟨_,rfl⟩;rw [hL] at g1 g2 Vq;rw [hL];clear hL;have be:Hd (Below w.heap.size w w3):=zh (hB.trans (jG.mono (by simp;omega)));have fK:=jG.size;simp at fK;have HRN:Hd (aQ w3 (fun b=>b<w3.heap.size) (.slice A2 L.length c2) L):=zh ⟨xs,Row.of_own g1 fun b hb=>(g1.lt b hb).2,g2.keep zr fun b hb=>by simp at hb;omega⟩;clear g1 g2 jG hB g_ a7 HR;go_wp2_with fail;refine (wX TZ.o).mono ?_;rintro e w4 ⟨dB,A3,c3,rfl,aD⟩;have iV:=dB.size;obtain ⟨W,hW⟩:∃ W,W=w4.alloc (.cells #[.int .i64 0,.string ⟨#[]⟩,.int .i64 0] 27):=⟨_,rfl⟩;(have dz:Below w3.heap.size w3 W:=by rw [hW];exact dB.alloc (by omega) _);have Wp:=dz.size;have Qa:Hd (W.ownsRow w3.heap.size 36 4 (.slice A3 ts.length c3) ts.length (eg ts)):=zh (by rw [hW];exact aD.alloc _);have rZ:Hd (aQ W (fun b=>b<W.heap.size) (.slice A2 L.length c2) L):=zh (HRN.o.keep (aI.of_below dz fun _ h=>h) fun b hb=>by omega);have gM:Hd (Below w.heap.size w W):=zh (be.o.trans (dz.mono (by omega)));have Qr:=gM.o.size;have HTL:=zh Vq.o.tl;have HLL:=zh Vq.o.len;clear dB dz aD HRN be TZ;go_wp2_with fail
      (try go_step3)
      go_wp2_with fail
      go_loopg [8,9] ts.length (fun mm kv iv wr=>∃ i:Nat,mm=ts.length - i∧i≤ts.length∧iv = .int .i64 i∧kv = .int .i64 (cntT (ts.take i))∧Hd (Below W.heap.size W wr))
      case atStart=>exact ⟨0,rfl,by omega,rfl,rfl,zh (by rw [hW];exact Below.refl _ _)⟩
      case round=>
        obtain ⟨i,rfl,hi,rfl,rfl,HB⟩:=hrel;clear hW;obtain ⟨Wo,hWo⟩:∃ Wo,Wo=wr:=⟨_,rfl⟩;subst hWo;have LN:=HB.o.size;have hkle:=cntT_le (l:=ts.take i);rw [List.length_take] at hkle;have GO:=HTL.o;by_cases fs:i<ts.length
        case pos=>
          have HTr:=zh (own_below Qa.o HB.o);(have hlti:(i:Int)<(ts.length:Int):=by omega);obtain ⟨tg,c0,hA,-⟩:=HTr.o.form (by omega);cases hA;obtain ⟨t0,t1,t2,t3⟩:=re HTr.o fs;have wM:=cntT_take fs;have hhit:=Vq.o.hit i fs;obtain ⟨t,ht⟩:∃ t,ts[i]=t:=⟨_,rfl⟩;rw [ht] at t0 t1 t2 t3 wM hhit;have htg:tg<Wo.heap.size:=(HTr.o.lt tg rfl).2;clear ht t2;obtain ⟨Q,hQ⟩:∃ Q,cntT (ts.take i)=Q:=⟨_,rfl⟩;rw [hQ] at wM hkle;have fM:=zh wM;have HHIT:=zh hhit;rw [hQ];clear wM hhit hQ;obtain ⟨tk,hk⟩:∃ tk,t.k=tk:=⟨_,rfl⟩;obtain ⟨tf,htf⟩:∃ tf,t.fr=tf:=⟨_,rfl⟩;obtain ⟨tx,DW⟩:∃ tx,t.tx=tx:=⟨_,rfl⟩;rw [hk] at fM HHIT t0;rw [htf] at t1;rw [DW] at t3;by_cases hname:tk=1∨tk=2
          case neg=>
            (have k1:(tk == 1)=false:=by rw [beq_eq_false_iff_ne];exact fun e=>hname (.inl e));(have k2:(tk == 2)=false:=by rw [beq_eq_false_iff_ne];exact fun e=>hname (.inr e));have n1:¬ tk=1:=fun e=>hname (.inl e);have n2:¬ tk=2:=fun e=>hname (.inr e);(have b1:(tk != 1)=true:=by simpa using n1);(have b2:(tk != 2)=true:=by simpa using n2);rw [if_neg hname] at fM;clear hk htf DW hname HHIT;go_wp2_with fail
            go_roundg (ts.length - (i+1))
            case measure=>omega
            case rel=>exact ⟨i+1,rfl,by omega,by go_num,by rw [fM.o];rfl,HB⟩
          case pos=>
            rw [if_pos hname] at fM;have HF:=zh (HHIT.o hname);have HEQ:Hd (t.fr=tf∧t.tx=tx):=zh ⟨htf,DW⟩;have KK:Hd (∀ P:Prop,(tk=1→P)→(tk=2→P)→P):=zh fun P a b=>hname.elim a b;clear hk htf DW hname HHIT;refine KK.o _ (fun e1=>?_) (fun e2=>?_)
            all_goals
              subst tk;clear KK;go_wp2_with fail
              (try go_step3)
              go_wp2_with fail
              go_loopg [10,11] L.length (fun mm fv jv wr=>∃ j:Nat,mm=L.length - j∧j≤L.length∧jv = .int .i64 j∧fv = .bool ((L.take j).any (hit t))∧Hd (Below Wo.heap.size Wo wr))
              case atStart=>exact ⟨0,rfl,by omega,rfl,rfl,zh (Below.refl _ _)⟩
              case round=>
                obtain ⟨j,rfl,hj,rfl,rfl,QW⟩:=hrel;have tB:=HLL.o;by_cases Nr:j<L.length
                case pos=>
                  have hstj:=any_take (t:=t) Nr;have GQ:=(rZ.o.keep (aI.of_below HB.o fun _ h=>h) (fun _ h=>h)).keep (aI.of_below QW.o fun b hb=>by omega) (fun _ h=>h);obtain ⟨g,o,cap,Bk,c,hv,FQ,q0,q1,q2,q3,q4,BM⟩:=GQ.cellsD Nr;cases hv;obtain ⟨y,hy⟩:∃ y,L[j]=y:=⟨_,rfl⟩;rw [hy] at q0 q1 q3 hstj;clear hy BM GQ q2 q4;have s1:Wo.cell? ⟨tg,i * 4+1,none⟩=some (.int .i64 tf):=t1;have r1:=(QW.o.cell (p:=⟨tg,i * 4+1,none⟩) htg).trans t1;have r3:=(QW.o.cell (p:=⟨tg,i * 4+3,none⟩) htg).trans t3;clear s1;obtain ⟨fl,L4⟩:∃ fl,(L.take j).any (hit t)=fl:=⟨_,rfl⟩;rw [L4] at hstj;rw [L4];have HSJ:=zh hstj;clear hstj L4;obtain ⟨yk,hyk⟩:∃ yk,y.k=yk:=⟨_,rfl⟩;obtain ⟨yf,hyf⟩:∃ yf,y.fr=yf:=⟨_,rfl⟩;obtain ⟨yx,hyx⟩:∃ yx,y.tx=yx:=⟨_,rfl⟩;have HY:Hd (hit t y=decide ((yk=40∨yk=42)∧yf=tf∧yx=tx)):=zh (by rw [← hyk,← hyf,← hyx,← HEQ.o.1,← HEQ.o.2];rfl);rw [hyk] at q0;rw [hyf] at q1;rw [hyx] at q3;clear hyk hyf hyx;(have hjli:(j:Int)<(L.length:Int):=by omega);cases fl with
                  | true=>
                    go_wp2_with fail;refine wp_region_held_drew (S:=(fun w'=>w'.cell? ⟨g,o+j * 5,none⟩=some (.int .i64 yk)∧w'.cell? ⟨g,o+j * 5+1,none⟩=some (.int .i64 yf)∧w'.cell? ⟨g,o+j * 5+3,none⟩=some (.string yx)∧w'.cell? ⟨tg,i * 4+1,none⟩=some (.int .i64 tf)∧w'.cell? ⟨tg,i * 4+3,none⟩=some (.string tx))) (by kernel_rfl) (by exact ⟨q0,q1,q3,r1,r3⟩) (fun ac=>?_);refine bw ?_ ac;clear ac;rintro wb hb ac;refine aK 44 (by kernel_rfl) (fun aF=>?_);have bf:Hd (Below Wo.heap.size Wo wb):=zh (QW.o.trans (hb.mono (by have h9:=QW.o.size;omega)));clear hb q0 q1 q3 r1 r3
                    skip
                    (iterate 2 (refine ao (v:=?_) aF (by decide) (fun _ _ _ h=>h) (Or.inl ⟨by rfl,?_⟩) (by assumption) ?_;rotate_left;(intro W aH;(try dsimp only [ze] at aH);go_simp;first | done | rfl);try simp only [Act.put,cr,cj,ch,UC,UB,VB]));(iterate 40 (refine ao (v:=undef) aF (by decide) (fun _ _ _ h=>h) (Or.inr ⟨by rfl,rfl⟩) (by assumption) ?_;try simp only [Act.put,cr,cj,ch,UC,UB,VB]));(iterate 2 (refine ao (v:=?_) aF (by decide) (fun _ _ _ h=>h) (Or.inl ⟨by rfl,?_⟩) (by assumption) ?_;rotate_left;(intro W aH;(try dsimp only [ze] at aH);go_simp;first | done | rfl);try simp only [Act.put,cr,cj,ch,UC,UB,VB]));refine bz ?_;clear aF ac;go_wp2_with fail
                    go_roundg (L.length - (j+1))
                    case measure=>omega
                    case rel=>exact ⟨j+1,rfl,by omega,by go_num,by rw [HSJ.o,HY.o];rfl,bf⟩
                  | false=>
                    by_cases h40:yk=40
                    case pos=>
                      subst h40;by_cases hf:yf=tf
                      case pos=>
                        subst hf;by_cases hx:yx=tx
                        case pos=>
                          subst hx;go_wp2_with fail;refine wp_region_held_drew (S:=(fun w'=>w'.cell? ⟨g,o+j * 5,none⟩=some (.int .i64 40)∧w'.cell? ⟨g,o+j * 5+1,none⟩=some (.int .i64 yf)∧w'.cell? ⟨g,o+j * 5+3,none⟩=some (.string yx)∧w'.cell? ⟨tg,i * 4+1,none⟩=some (.int .i64 yf)∧w'.cell? ⟨tg,i * 4+3,none⟩=some (.string yx))) (by kernel_rfl) (by exact ⟨q0,q1,q3,r1,r3⟩) (fun ac=>?_);refine bw ?_ ac;clear ac;rintro wb hb ac;refine aK 44 (by kernel_rfl) (fun aF=>?_);have bf:Hd (Below Wo.heap.size Wo wb):=zh (QW.o.trans (hb.mono (by have h9:=QW.o.size;omega)));clear hb q0 q1 q3 r1 r3
                          skip
                          (iterate 9 (refine ao (v:=?_) aF (by decide) (fun _ _ _ h=>h) (Or.inl ⟨by rfl,?_⟩) (by assumption) ?_;rotate_left;(intro W aH;(try dsimp only [ze] at aH);go_simp;first | done | rfl);try simp only [Act.put,cr,cj,ch,UC,UB,VB]));(iterate 6 (refine ao (v:=undef) aF (by decide) (fun _ _ _ h=>h) (Or.inr ⟨by rfl,rfl⟩) (by assumption) ?_;try simp only [Act.put,cr,cj,ch,UC,UB,VB]));(iterate 2 (refine ao (v:=?_) aF (by decide) (fun _ _ _ h=>h) (Or.inl ⟨by rfl,?_⟩) (by assumption) ?_;rotate_left;(intro W aH;(try dsimp only [ze] at aH);go_simp;first | done | rfl);try simp only [Act.put,cr,cj,ch,UC,UB,VB]));(iterate 27 (refine ao (v:=?_) aF (by decide) (fun _ _ _ h=>h) (Or.inl ⟨by rfl,?_⟩) (by assumption) ?_;rotate_left;(intro W aH;(try dsimp only [ze] at aH);go_simp;first | done | rfl);try simp only [Act.put,cr,cj,ch,UC,UB,VB]));refine bz ?_;clear aF ac;go_wp2_with fail
                          go_roundg (L.length - (j+1))
                          case measure=>omega
                          case rel=>exact ⟨j+1,rfl,by omega,by go_num,by rw [HSJ.o,HY.o];simp,bf⟩
                        case neg=>
                          have hxe:=bs_ne hx;have HXN:=zh hx;clear hx;go_wp2_with fail;refine wp_region_held_drew (S:=(fun w'=>w'.cell? ⟨g,o+j * 5,none⟩=some (.int .i64 40)∧w'.cell? ⟨g,o+j * 5+1,none⟩=some (.int .i64 yf)∧w'.cell? ⟨g,o+j * 5+3,none⟩=some (.string yx)∧w'.cell? ⟨tg,i * 4+1,none⟩=some (.int .i64 yf)∧w'.cell? ⟨tg,i * 4+3,none⟩=some (.string tx))) (by kernel_rfl) (by exact ⟨q0,q1,q3,r1,r3⟩) (fun ac=>?_);refine bw ?_ ac;clear ac;rintro wb hb ac;refine aK 44 (by kernel_rfl) (fun aF=>?_);have bf:Hd (Below Wo.heap.size Wo wb):=zh (QW.o.trans (hb.mono (by have h9:=QW.o.size;omega)));clear hb q0 q1 q3 r1 r3
                          skip
                          (iterate 9 (refine ao (v:=?_) aF (by decide) (fun _ _ _ h=>h) (Or.inl ⟨by rfl,?_⟩) (by assumption) ?_;rotate_left;(intro W aH;(try dsimp only [ze] at aH);go_simp;first | done | rfl);try simp only [Act.put,cr,cj,ch,UC,UB,VB]));(iterate 6 (refine ao (v:=undef) aF (by decide) (fun _ _ _ h=>h) (Or.inr ⟨by rfl,rfl⟩) (by assumption) ?_;try simp only [Act.put,cr,cj,ch,UC,UB,VB]));(iterate 2 (refine ao (v:=?_) aF (by decide) (fun _ _ _ h=>h) (Or.inl ⟨by rfl,?_⟩) (by assumption) ?_;rotate_left;(intro W aH;(try dsimp only [ze] at aH);go_simp;first | done | rfl);try simp only [Act.put,cr,cj,ch,UC,UB,VB]));(iterate 27 (refine ao (v:=?_) aF (by decide) (fun _ _ _ h=>h) (Or.inl ⟨by rfl,?_⟩) (by assumption) ?_;rotate_left;(intro W aH;(try dsimp only [ze] at aH);go_simp;first | done | rfl);try simp only [Act.put,cr,cj,ch,UC,UB,VB]));refine bz ?_;clear aF ac;go_wp2_with fail
                          go_roundg (L.length - (j+1))
                          case measure=>omega
                          case rel=>exact ⟨j+1,rfl,by omega,by go_num,by rw [HSJ.o,HY.o];rw [decide_eq_false (fun h=>HXN.o h.2.2)];rfl,bf⟩
                      case neg=>
                        (have hfe:(yf == tf)=false:=by rw [beq_eq_false_iff_ne];exact hf);have HFN:=zh hf;clear hf;go_wp2_with fail;refine wp_region_held_drew (S:=(fun w'=>w'.cell? ⟨g,o+j * 5,none⟩=some (.int .i64 40)∧w'.cell? ⟨g,o+j * 5+1,none⟩=some (.int .i64 yf)∧w'.cell? ⟨g,o+j * 5+3,none⟩=some (.string yx)∧w'.cell? ⟨tg,i * 4+1,none⟩=some (.int .i64 tf)∧w'.cell? ⟨tg,i * 4+3,none⟩=some (.string tx))) (by kernel_rfl) (by exact ⟨q0,q1,q3,r1,r3⟩) (fun ac=>?_);refine bw ?_ ac;clear ac;rintro wb hb ac;refine aK 44 (by kernel_rfl) (fun aF=>?_);have bf:Hd (Below Wo.heap.size Wo wb):=zh (QW.o.trans (hb.mono (by have h9:=QW.o.size;omega)));clear hb q0 q1 q3 r1 r3
                        skip
                        (iterate 9 (refine ao (v:=?_) aF (by decide) (fun _ _ _ h=>h) (Or.inl ⟨by rfl,?_⟩) (by assumption) ?_;rotate_left;(intro W aH;(try dsimp only [ze] at aH);go_simp;first | done | rfl);try simp only [Act.put,cr,cj,ch,UC,UB,VB]));(iterate 6 (refine ao (v:=undef) aF (by decide) (fun _ _ _ h=>h) (Or.inr ⟨by rfl,rfl⟩) (by assumption) ?_;try simp only [Act.put,cr,cj,ch,UC,UB,VB]));(iterate 2 (refine ao (v:=?_) aF (by decide) (fun _ _ _ h=>h) (Or.inl ⟨by rfl,?_⟩) (by assumption) ?_;rotate_left;(intro W aH;(try dsimp only [ze] at aH);go_simp;first | done | rfl);try simp only [Act.put,cr,cj,ch,UC,UB,VB]));(iterate 13 (refine ao (v:=?_) aF (by decide) (fun _ _ _ h=>h) (Or.inl ⟨by rfl,?_⟩) (by assumption) ?_;rotate_left;(intro W aH;(try dsimp only [ze] at aH);go_simp;first | done | rfl);try simp only [Act.put,cr,cj,ch,UC,UB,VB]));(iterate 11 (refine ao (v:=undef) aF (by decide) (fun _ _ _ h=>h) (Or.inr ⟨by rfl,rfl⟩) (by assumption) ?_;try simp only [Act.put,cr,cj,ch,UC,UB,VB]));(iterate 3 (refine ao (v:=?_) aF (by decide) (fun _ _ _ h=>h) (Or.inl ⟨by rfl,?_⟩) (by assumption) ?_;rotate_left;(intro W aH;(try dsimp only [ze] at aH);go_simp;first | done | rfl);try simp only [Act.put,cr,cj,ch,UC,UB,VB]));refine bz ?_;clear aF ac;go_wp2_with fail
                        go_roundg (L.length - (j+1))
                        case measure=>omega
                        case rel=>exact ⟨j+1,rfl,by omega,by go_num,by rw [HSJ.o,HY.o];rw [decide_eq_false (fun h=>HFN.o h.2.1)];rfl,bf⟩
                    case neg=>
                      (have e40:(yk == 40)=false:=by rw [beq_eq_false_iff_ne];exact h40);by_cases Ej:yk=42
                      case pos=>
                        subst Ej;clear h40 e40;by_cases hf:yf=tf
                        case pos=>
                          subst hf;by_cases hx:yx=tx
                          case pos=>
                            subst hx;go_wp2_with fail;refine wp_region_held_drew (S:=(fun w'=>w'.cell? ⟨g,o+j * 5,none⟩=some (.int .i64 42)∧w'.cell? ⟨g,o+j * 5+1,none⟩=some (.int .i64 yf)∧w'.cell? ⟨g,o+j * 5+3,none⟩=some (.string yx)∧w'.cell? ⟨tg,i * 4+1,none⟩=some (.int .i64 yf)∧w'.cell? ⟨tg,i * 4+3,none⟩=some (.string yx))) (by kernel_rfl) (by exact ⟨q0,q1,q3,r1,r3⟩) (fun ac=>?_);refine bw ?_ ac;clear ac;rintro wb hb ac;refine aK 44 (by kernel_rfl) (fun aF=>?_);have bf:Hd (Below Wo.heap.size Wo wb):=zh (QW.o.trans (hb.mono (by have h9:=QW.o.size;omega)));clear hb q0 q1 q3 r1 r3
                            skip
                            (iterate 17 (refine ao (v:=?_) aF (by decide) (fun _ _ _ h=>h) (Or.inl ⟨by rfl,?_⟩) (by assumption) ?_;rotate_left;(intro W aH;(try dsimp only [ze] at aH);go_simp;first | done | rfl);try simp only [Act.put,cr,cj,ch,UC,UB,VB]));(iterate 27 (refine ao (v:=?_) aF (by decide) (fun _ _ _ h=>h) (Or.inl ⟨by rfl,?_⟩) (by assumption) ?_;rotate_left;(intro W aH;(try dsimp only [ze] at aH);go_simp;first | done | rfl);try simp only [Act.put,cr,cj,ch,UC,UB,VB]));refine bz ?_;clear aF ac;go_wp2_with fail
                            go_roundg (L.length - (j+1))
                            case measure=>omega
                            case rel=>exact ⟨j+1,rfl,by omega,by go_num,by rw [HSJ.o,HY.o];simp,bf⟩
                          case neg=>
                            have hxe:=bs_ne hx;have HXN:=zh hx;clear hx;go_wp2_with fail;refine wp_region_held_drew (S:=(fun w'=>w'.cell? ⟨g,o+j * 5,none⟩=some (.int .i64 42)∧w'.cell? ⟨g,o+j * 5+1,none⟩=some (.int .i64 yf)∧w'.cell? ⟨g,o+j * 5+3,none⟩=some (.string yx)∧w'.cell? ⟨tg,i * 4+1,none⟩=some (.int .i64 yf)∧w'.cell? ⟨tg,i * 4+3,none⟩=some (.string tx))) (by kernel_rfl) (by exact ⟨q0,q1,q3,r1,r3⟩) (fun ac=>?_);refine bw ?_ ac;clear ac;rintro wb hb ac;refine aK 44 (by kernel_rfl) (fun aF=>?_);have bf:Hd (Below Wo.heap.size Wo wb):=zh (QW.o.trans (hb.mono (by have h9:=QW.o.size;omega)));clear hb q0 q1 q3 r1 r3
                            skip
                            (iterate 17 (refine ao (v:=?_) aF (by decide) (fun _ _ _ h=>h) (Or.inl ⟨by rfl,?_⟩) (by assumption) ?_;rotate_left;(intro W aH;(try dsimp only [ze] at aH);go_simp;first | done | rfl);try simp only [Act.put,cr,cj,ch,UC,UB,VB]));(iterate 27 (refine ao (v:=?_) aF (by decide) (fun _ _ _ h=>h) (Or.inl ⟨by rfl,?_⟩) (by assumption) ?_;rotate_left;(intro W aH;(try dsimp only [ze] at aH);go_simp;first | done | rfl);try simp only [Act.put,cr,cj,ch,UC,UB,VB]));refine bz ?_;clear aF ac;go_wp2_with fail
                            go_roundg (L.length - (j+1))
                            case measure=>omega
                            case rel=>exact ⟨j+1,rfl,by omega,by go_num,by rw [HSJ.o,HY.o];rw [decide_eq_false (fun h=>HXN.o h.2.2)];rfl,bf⟩
                        case neg=>
                          (have hfe:(yf == tf)=false:=by rw [beq_eq_false_iff_ne];exact hf);have HFN:=zh hf;clear hf;go_wp2_with fail;refine wp_region_held_drew (S:=(fun w'=>w'.cell? ⟨g,o+j * 5,none⟩=some (.int .i64 42)∧w'.cell? ⟨g,o+j * 5+1,none⟩=some (.int .i64 yf)∧w'.cell? ⟨g,o+j * 5+3,none⟩=some (.string yx)∧w'.cell? ⟨tg,i * 4+1,none⟩=some (.int .i64 tf)∧w'.cell? ⟨tg,i * 4+3,none⟩=some (.string tx))) (by kernel_rfl) (by exact ⟨q0,q1,q3,r1,r3⟩) (fun ac=>?_);refine bw ?_ ac;clear ac;rintro wb hb ac;refine aK 44 (by kernel_rfl) (fun aF=>?_);have bf:Hd (Below Wo.heap.size Wo wb):=zh (QW.o.trans (hb.mono (by have h9:=QW.o.size;omega)));clear hb q0 q1 q3 r1 r3
                          skip
                          (iterate 17 (refine ao (v:=?_) aF (by decide) (fun _ _ _ h=>h) (Or.inl ⟨by rfl,?_⟩) (by assumption) ?_;rotate_left;(intro W aH;(try dsimp only [ze] at aH);go_simp;first | done | rfl);try simp only [Act.put,cr,cj,ch,UC,UB,VB]));(iterate 13 (refine ao (v:=?_) aF (by decide) (fun _ _ _ h=>h) (Or.inl ⟨by rfl,?_⟩) (by assumption) ?_;rotate_left;(intro W aH;(try dsimp only [ze] at aH);go_simp;first | done | rfl);try simp only [Act.put,cr,cj,ch,UC,UB,VB]));(iterate 11 (refine ao (v:=undef) aF (by decide) (fun _ _ _ h=>h) (Or.inr ⟨by rfl,rfl⟩) (by assumption) ?_;try simp only [Act.put,cr,cj,ch,UC,UB,VB]));(iterate 3 (refine ao (v:=?_) aF (by decide) (fun _ _ _ h=>h) (Or.inl ⟨by rfl,?_⟩) (by assumption) ?_;rotate_left;(intro W aH;(try dsimp only [ze] at aH);go_simp;first | done | rfl);try simp only [Act.put,cr,cj,ch,UC,UB,VB]));refine bz ?_;clear aF ac;go_wp2_with fail
                          go_roundg (L.length - (j+1))
                          case measure=>omega
                          case rel=>exact ⟨j+1,rfl,by omega,by go_num,by rw [HSJ.o,HY.o];rw [decide_eq_false (fun h=>HFN.o h.2.1)];rfl,bf⟩
                      case neg=>
                        (have e42:(yk == 42)=false:=by rw [beq_eq_false_iff_ne];exact Ej);have HKN:Hd (¬ (yk=40∨yk=42)):=zh (fun h=>h.elim h40 Ej);clear h40 Ej;go_wp2_with fail;refine wp_region_held_drew (S:=(fun w'=>w'.cell? ⟨g,o+j * 5,none⟩=some (.int .i64 yk)∧w'.cell? ⟨g,o+j * 5+1,none⟩=some (.int .i64 yf)∧w'.cell? ⟨g,o+j * 5+3,none⟩=some (.string yx)∧w'.cell? ⟨tg,i * 4+1,none⟩=some (.int .i64 tf)∧w'.cell? ⟨tg,i * 4+3,none⟩=some (.string tx))) (by kernel_rfl) (by exact ⟨q0,q1,q3,r1,r3⟩) (fun ac=>?_);refine bw ?_ ac;clear ac;rintro wb hb ac;refine aK 44 (by kernel_rfl) (fun aF=>?_);have bf:Hd (Below Wo.heap.size Wo wb):=zh (QW.o.trans (hb.mono (by have h9:=QW.o.size;omega)));clear hb q0 q1 q3 r1 r3
                        skip
                        (iterate 17 (refine ao (v:=?_) aF (by decide) (fun _ _ _ h=>h) (Or.inl ⟨by rfl,?_⟩) (by assumption) ?_;rotate_left;(intro W aH;(try dsimp only [ze] at aH);go_simp;first | done | rfl);try simp only [Act.put,cr,cj,ch,UC,UB,VB]));(iterate 11 (refine ao (v:=undef) aF (by decide) (fun _ _ _ h=>h) (Or.inr ⟨by rfl,rfl⟩) (by assumption) ?_;try simp only [Act.put,cr,cj,ch,UC,UB,VB]));(iterate 2 (refine ao (v:=?_) aF (by decide) (fun _ _ _ h=>h) (Or.inl ⟨by rfl,?_⟩) (by assumption) ?_;rotate_left;(intro W aH;(try dsimp only [ze] at aH);go_simp;first | done | rfl);try simp only [Act.put,cr,cj,ch,UC,UB,VB]));(iterate 11 (refine ao (v:=undef) aF (by decide) (fun _ _ _ h=>h) (Or.inr ⟨by rfl,rfl⟩) (by assumption) ?_;try simp only [Act.put,cr,cj,ch,UC,UB,VB]));(iterate 3 (refine ao (v:=?_) aF (by decide) (fun _ _ _ h=>h) (Or.inl ⟨by rfl,?_⟩) (by assumption) ?_;rotate_left;(intro W aH;(try dsimp only [ze] at aH);go_simp;first | done | rfl);try simp only [Act.put,cr,cj,ch,UC,UB,VB]));refine bz ?_;clear aF ac;go_wp2_with fail
                        go_roundg (L.length - (j+1))
                        case measure=>omega
                        case rel=>exact ⟨j+1,rfl,by omega,by go_num,by rw [HSJ.o,HY.o];rw [decide_eq_false (fun h=>HKN.o h.1)];rfl,bf⟩
                case neg=>
                  (have Eb:L.length≤j:=by omega);(have L4:(L.take j).any (hit t)=true:=by rw [List.take_of_length_le Eb];exact HF.o);(have hjn:decide ((j:Int)<(L.length:Int))=false:=by simp;omega);rw [L4];have dG:=zh (HB.o.trans (QW.o.mono LN));clear L4 Nr;go_wp2_with fail
                  go_roundg (ts.length - (i+1))
                  case measure=>omega
                  case rel=>exact ⟨i+1,rfl,by omega,by go_num,by rw [fM.o];go_num,dG⟩
        case neg=>
          (have Eb:ts.length≤i:=by omega);(have hQ:cntT (ts.take i)=cntT ts:=by rw [List.take_of_length_le Eb]);(have hdi:decide ((i:Int)<(ts.length:Int))=false:=by simp;omega);(have Ns:decide (i<ts.length)=false:=by simp;omega);(have U1:decide ((i:Int)<(ts.length:Int))=false:=by simp;omega);rw [hQ];obtain ⟨Q,hq⟩:∃ Q,cntT ts=Q:=⟨_,rfl⟩;have HQ:=zh hq;rw [hQ,hq] at hkle;rw [hq];clear hQ hq fs;go_wp2_with fail
          (try go_step3)
          go_wp2_with fail
          go_loopg [12,13] L.length (fun mm cv jv wr=>∃ j:Nat,mm=L.length - j∧j≤L.length∧jv = .int .i64 j∧cv = .int .i64 (cntN (L.take j))∧Hd (Below Wo.heap.size Wo wr))
          case atStart=>exact ⟨0,rfl,by omega,rfl,rfl,zh (Below.refl _ _)⟩
          case round=>
            obtain ⟨j,rfl,hj,rfl,rfl,QW⟩:=hrel;have tB:=HLL.o;have hcle:=cntN_le (l:=L.take j);rw [List.length_take] at hcle;by_cases Nr:j<L.length
            case pos=>
              have hstj:=cntN_take Nr;have GQ:=(rZ.o.keep (aI.of_below HB.o fun _ h=>h) (fun _ h=>h)).keep (aI.of_below QW.o fun b hb=>by omega) (fun _ h=>h);obtain ⟨g,o,cap,Bk,c,hv,FQ,q0,q1,q2,q3,q4,BM⟩:=GQ.cellsD Nr;cases hv;obtain ⟨y,hy⟩:∃ y,L[j]=y:=⟨_,rfl⟩;rw [hy] at q0 hstj;obtain ⟨C,hC⟩:∃ C,cntN (L.take j)=C:=⟨_,rfl⟩;rw [hC] at hstj hcle;rw [hC];obtain ⟨yk,hyk⟩:∃ yk,y.k=yk:=⟨_,rfl⟩;rw [hyk] at hstj q0;have HSJ:=zh hstj;(have hjli:(j:Int)<(L.length:Int):=by omega);clear hy BM GQ q1 q2 q3 q4 hstj hC hyk;by_cases h40:yk=40
              case pos=>
                subst h40;go_wp2_with fail
                go_roundg (L.length - (j+1))
                case measure=>omega
                case rel=>exact ⟨j+1,rfl,by omega,by go_num,by rw [HSJ.o,if_pos (by decide)];go_num,QW⟩
              case neg=>
                (have e40:(yk == 40)=false:=by rw [beq_eq_false_iff_ne];exact h40);by_cases Ej:yk=42
                case pos=>
                  subst Ej;go_wp2_with fail
                  go_roundg (L.length - (j+1))
                  case measure=>omega
                  case rel=>exact ⟨j+1,rfl,by omega,by go_num,by rw [HSJ.o,if_pos (by decide)];go_num,QW⟩
                case neg=>
                  (have e42:(yk == 42)=false:=by rw [beq_eq_false_iff_ne];exact Ej);have HKN:Hd (¬ (yk=40∨yk=42)):=zh (fun h=>h.elim h40 Ej);clear h40 Ej;go_wp2_with fail
                  go_roundg (L.length - (j+1))
                  case measure=>omega
                  case rel=>exact ⟨j+1,rfl,by omega,by go_num,by rw [HSJ.o,if_neg HKN.o];rfl,QW⟩
            case neg=>
              (have Eb:L.length≤j:=by omega);(have hcq:cntN (L.take j)=Q:=by rw [List.take_of_length_le Eb,Vq.o.cnt,HQ.o]);(have hjn:decide ((j:Int)<(L.length:Int))=false:=by simp;omega);rw [hcq];have dG:Hd (Below w.heap.size w wr):=zh (gM.o.trans ((HB.o.trans (QW.o.mono LN)).mono Qr));clear hcq Nr;go_wp2_with fail;refine (Cw (Utf8Tabs_below HT.o dG.o) (by have:=dG.o.size;omega) ((dG.o.cell (p:=⟨2,0,none⟩) (by show 2<_;omega)).trans Ay.o)).mono ?_;rintro e w9 ⟨rfl,Y4⟩;have eG:=zh Y4;have lz:=dG.o.size;clear Y4;go_wp2_with fail;go_ret;exact ⟨rfl,dG.o.trans (eG.o.mono lz)⟩
end
end Go.Proofs.YtfmgdmeopakdaaaGreatDoor
