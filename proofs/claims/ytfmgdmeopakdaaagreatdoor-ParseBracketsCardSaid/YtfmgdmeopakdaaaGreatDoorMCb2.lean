/- Parts of one proof. -/
import Derived.Test.YtfmgdmeopakdaaaGreatDoorMCb1
set_option linter.unusedVariables false
set_option linter.unusedSimpArgs false
namespace Go.Proofs.YtfmgdmeopakdaaaGreatDoor
open Go Go.RowKit Tryz
set_option maxRecDepth 100000
set_option maxHeartbeats 8000000
theorem valueM_some (s:ByteArray):∃ r,oh s=some r:=by
  unfold oh ow;cases hs:ee s with
  | error cp=>exact ⟨_,rfl⟩
  | ok ts=>
    obtain ⟨LP,LO,hl,-⟩:=(jK hs).2.wt;have L5:=((alone_fin (ζ:=True) LO (expr_fin (ζ:=True) (i:=0) (b:=false) (lo:=0) LO (Str.gr_fin LO ts.length 0 (by omega)) (Nat.le_refl 0) hl)).1 trivial);simp only;cases hx:ky ts (dM ts (gr ts ts.length)) (0,false) with
    | none=>exact absurd hx (fun h2=>by obtain ⟨r,h⟩:=L5;rw [h2] at h;cases h)
    | some r=>cases r with
      | error p=>exact ⟨_,rfl⟩
      | ok ns=>exact ⟨_,rfl⟩
theorem readM_code {x:List Tk→PM No} {s:ByteArray} {c p:Int} (h:ow x s=some (.error (c,p))):c≠0:=by
  unfold ow at h;cases hs:ee s with
  | error cp=>
    rw [hs] at h;cases h;rcases va hs with h | h <;> omega
  | ok ts=>
    rw [hs] at h;simp only at h;cases hx:x ts (0,false) with
    | none=>rw [hx] at h;cases h
    | some r=>
      rw [hx] at h;cases r with
      | error q=>cases h;decide
      | ok ns=>
        simp only [Option.some.injEq] at h;split at h
        · cases h;decide
        · cases h
theorem brackets_text (s:ByteArray) (P:Nat):((⟨#[40]⟩:ByteArray) ++ s.extract 0 P ++ ⟨#[41]⟩).data.toList=40 :: (s.data.toList.take P ++ [41]):=by
  rw [ByteArray.data_append,ByteArray.data_append,Array.toList_append,Array.toList_append];have e:=ma (s:=s) (p:=0) (n:=P);rw [Nat.zero_add] at e;rw [e];simp [bs]
theorem brackets_size (s:ByteArray) (P:Nat) (h:s.size≤4000):((⟨#[40]⟩:ByteArray) ++ s.extract 0 P ++ ⟨#[41]⟩).size≤140737488355328:=by
  have e1:(⟨#[40]⟩:ByteArray).size=1:=rfl;have e2:(⟨#[41]⟩:ByteArray).size=1:=rfl;rw [ByteArray.size_append,ByteArray.size_append,ByteArray.size_extract,e1,e2];omega
section
variable {w:World}
theorem brackets_true {s:ByteArray} (hs:s.size≤9223372036854775807) (hT:Lib.Utf8Tabs 0 1 w) (h3:3≤w.heap.size) {mm:Int} (n_:w.cell? ⟨2,0,none⟩=some (.int .i64 mm)) :
    Calls prog 4 #[.string s] w fun e w'=>e = .returned (.bool true)∧Below w.heap.size w w':=by
  obtain ⟨r,hr⟩:=valueM_some s;have HT:=zh hT;have Ay:=zh n_;have HR:=zh hr;have HA:Hd (∀ W,Below w.heap.size w W→Calls prog 9 #[] W fun e w'=>e = .returned (.bool true)∧Below W.heap.size W w'):=zh fun W hB=>Cw (Utf8Tabs_below hT hB) (by have:=hB.size;omega) ((hB.cell (p:=⟨2,0,none⟩) (by show 2<_;omega)).trans n_);clear hT n_ hr;by_cases JH:4000<s.size
  · have R5:decide ((4000:Int)<(s.size:Int))=true:=by simp;omega
    (have U4:decide (4000<s.size)=true:=by simp;omega);go_enter func4,ntmps4;go_wp2_with fail;refine (HA.o w (Below.refl _ _)).mono ?_;rintro e w1 ⟨rfl,cB⟩;go_wp2_with fail;go_ret;exact ⟨rfl,cB⟩
  · have R5:decide ((4000:Int)<(s.size:Int))=false:=by simp;omega
    (have U4:decide (4000<s.size)=false:=by simp;omega);(have R3:¬ (4000:Int)<(s.size:Int):=by omega);go_enter func4,ntmps4;go_wp2_with fail;refine (AQ (by omega) HT.o h3 Ay.o HR.o).mono ?_;rintro e w1 ⟨cB,ua⟩;have a7:=zh cB;have et:=cB.size;clear cB;cases r with
    | error cp=>
      obtain ⟨c,p⟩:=cp;obtain rfl:=ua;have hc:c≠0:=readM_code (x:=fun ts=>ky ts (dM ts (gr ts ts.length))) HR.o;(have K9:decide (c=0)=false:=by simpa using hc);(have hcb:(c == 0)=false:=by simpa using hc);unfold dD;go_wp2_with fail;have hB:=(a7.o.alloc (by omega) (.cells #[.int .i64 0,.int .i64 0,.int .i64 0,.string ⟨#[]⟩,.slice none 0 0] 25)).alloc (by simp;omega) (.cells #[.int .i64 c,.string ⟨#[]⟩,.int .i64 p] 27);refine (HA.o _ hB).mono ?_;rintro e w2 ⟨rfl,cK⟩;have aE:=zh cK;clear cK;go_wp2_with fail;go_ret;exact ⟨rfl,hB.trans (aE.o.mono (by simp;omega))⟩
    | ok n=>
      obtain ⟨A',c',rfl,ae⟩:=ua;obtain ⟨ts,-,LU,-,-⟩:=vh HR.o;(have je:s.size≤4000:=by omega);obtain ⟨P,hP,K_,hlaw⟩:=bracket_law je HR.o;have hlaw:=hlaw _ (brackets_text s P);have TZ:=zh LU;have g_:=zh ae;have HLAW:=zh hlaw;obtain ⟨r2,LY⟩:=valueM_some ((⟨#[40]⟩:ByteArray) ++ s.extract 0 P ++ ⟨#[41]⟩);have sk:=zh LY;obtain ⟨nk,nf,nt,Qm,M_⟩:=n;have hP:nt=(P:Int):=hP;subst hP;simp only [No.k,No.fr,No.to,No.tx,No.ks] at g_ ⊢;clear LU ae LY hlaw JH R5 U4 R3 hP;go_wp2_with fail;obtain ⟨W1,ye⟩:∃ W1,(w1.alloc (.cells #[.int .i64 nk,.int .i64 nf,.int .i64 P,.string Qm,.slice A' M_.length c'] 25)).alloc (.cells #[.int .i64 0,.string ⟨#[]⟩,.int .i64 0] 27)=W1:=⟨_,rfl⟩;(have Sg:Below w.heap.size w W1:=by rw [← ye];exact (a7.o.alloc (by omega) _).alloc (by simp;omega) _);(have Zb:aj W1 w1.heap.size 25 #[.int .i64 nk,.int .i64 nf,.int .i64 P,.string Qm,.slice A' M_.length c']:=by rw [← ye];exact (aj.new _ _ _).alloc _);(have Y9:aQ W1 (fun b=>b<W1.heap.size) (.slice A' M_.length c') M_:=by rw [← ye];exact g_.o.keep (fun b hb=>(Below.heap_alloc _ _ _ (by have:=hb.2;simp;omega)).trans (Below.heap_alloc _ _ _ hb.2)) fun b hb=>by have:=hb.2;simp;omega);(have hzA:W1.heap.size=w1.heap.size+2:=by rw [← ye];simp);rw [ye];have AP:=zh Sg;have ZY:=zh Zb;have HRA:=zh Y9;clear ye Sg Zb Y9 g_ a7;refine (wX TZ.o).mono ?_;rintro e w4 ⟨dB,A3,c3,rfl,aD⟩;have iV:=dB.size;obtain ⟨W,hW⟩:∃ W,W=w4.alloc (.cells #[.int .i64 0,.string ⟨#[]⟩,.int .i64 0] 27):=⟨_,rfl⟩;(have dz:Below W1.heap.size W1 W:=by rw [hW];exact dB.alloc (by omega) _);have Wp:=dz.size;have Qa:Hd (W.ownsRow W1.heap.size 36 4 (.slice A3 ts.length c3) ts.length (eg ts)):=zh (by rw [hW];exact aD.alloc _);have gM:Hd (Below w.heap.size w W):=zh (AP.o.trans (dz.mono (by have:=AP.o.size;omega)));have HBW1:=zh dz;have Qr:=gM.o.size;(have GO:ts.length≤100000:=by have h1:=(jK TZ.o).2.wt.2.2.2;omega);clear dB dz aD;go_wp2_with fail
      (try go_step3)
      go_wp2_with fail
      go_loopg [7] ts.length (fun mm iv wr=>∃ i:Nat,mm=ts.length - i∧i≤ts.length∧iv = .int .i64 i∧Hd (Below W.heap.size W wr))
      case atStart=>exact ⟨0,rfl,by omega,rfl,zh (by rw [hW];exact Below.refl _ _)⟩
      case round=>
        obtain ⟨i,rfl,hi,rfl,HB⟩:=hrel;clear hW;have LN:=HB.o.size;by_cases fs:i<ts.length
        case pos=>
          have HTr:=own_below Qa.o HB.o;(have hlti:(i:Int)<(ts.length:Int):=by omega);obtain ⟨tg,c0,hA,-⟩:=HTr.form (by omega);cases hA;obtain ⟨t0,t1,t2,t3⟩:=re HTr fs;obtain ⟨y,hy⟩:∃ y,ts[i]=y:=⟨_,rfl⟩;rw [hy] at t0 t3;obtain ⟨yk,hyk⟩:∃ yk,y.k=yk:=⟨_,rfl⟩;obtain ⟨yx,hyx⟩:∃ yx,y.tx=yx:=⟨_,rfl⟩;rw [hyk] at t0;rw [hyx] at t3;clear hy hyk hyx t1 t2 HTr;by_cases h6:yk=6
          case pos=>
            subst h6;by_cases hx:yx=⟨#[59]⟩
            case pos=>
              subst hx;go_wp2_with fail;refine (HA.o _ (gM.o.trans (HB.o.mono (by omega)))).mono ?_;rintro e w6 ⟨rfl,uF⟩;go_wp2_with fail;go_ret;exact ⟨rfl,(gM.o.trans (HB.o.mono (by omega))).trans (uF.mono (by omega))⟩
            case neg=>
              have hxb:=bq hx;go_wp2_with fail
              go_roundg (ts.length - (i+1))
              case measure=>omega
              case rel=>exact ⟨i+1,rfl,by omega,by go_num,HB⟩
          case neg=>
            (have h6b:(yk == 6)=false:=by rw [beq_eq_false_iff_ne];exact h6);go_wp2_with fail
            go_roundg (ts.length - (i+1))
            case measure=>omega
            case rel=>exact ⟨i+1,rfl,by omega,by go_num,HB⟩
        case neg=>
          (have Eb:ts.length≤i:=by omega);(have hdi:decide ((i:Int)<(ts.length:Int))=false:=by simp;omega);(have Ns:decide (i<ts.length)=false:=by simp;omega);have hNr:=ZY.o.below (HBW1.o.trans (HB.o.mono Wp)) ZY.o.lt;have a0:=hNr.cell 0;have a1:=hNr.cell 1;have a2:=hNr.cell 2;have a3:=hNr.cell 3;have a4:=hNr.cell 4;simp at a0 a1 a2 a3 a4;(have La:(P:Int)≤(s.size:Int):=by omega);clear hNr;go_wp2_with fail;have sn:Hd (Below w.heap.size w wr):=zh (gM.o.trans (HB.o.mono (by omega)));(have h9:3≤wr.heap.size:=by omega);have h8:=Utf8Tabs_below HT.o sn.o;have h7:=(sn.o.cell (p:=⟨2,0,none⟩) (by show 2<_;omega)).trans Ay.o;have h6:=AQ (brackets_size s P je) h8 h9 h7 sk.o;refine h6.mono ?_;clear h6 h7 h8 h9;rintro e w6 ⟨uF,hr6⟩;have aR:=zh uF;have iK:=uF.size;have HW6:Hd (Below w.heap.size w w6):=zh (sn.o.trans (uF.mono (by omega)));clear uF a0 a1 a2 a3 a4;rcases HLAW.o with h | ⟨fr,Fq,n2,h,hE⟩
          · rw [sk.o] at h
            injection h with h
            subst h;obtain rfl:=hr6;unfold dD;go_wp2_with fail;have hB:=(HW6.o.alloc (by omega) (.cells #[.int .i64 0,.int .i64 0,.int .i64 0,.string ⟨#[]⟩,.slice none 0 0] 25)).alloc (by simp;omega) (.cells #[.int .i64 5,.string ⟨#[]⟩,.int .i64 0] 27);refine (HA.o _ hB).mono ?_;rintro e w7 ⟨rfl,ft⟩;have bf:=zh ft;clear ft;go_wp2_with fail;go_ret;exact ⟨rfl,hB.trans (bf.o.mono (by simp;omega))⟩
          · rw [sk.o] at h
            injection h with h
            subst h;obtain ⟨A7,c7,rfl,lH⟩:=hr6;simp only [No.k,No.fr,No.to,No.tx,No.ks,List.length_singleton] at lH ⊢;obtain ⟨g5,o5,cap5,B5,c5,hv5,hSg5,q0,q1,q2,q3,q4,BM⟩:=lH.cellsD (j:=0) (by simp);simp only [List.length_singleton] at hv5;cases hv5;simp only [cj,Nat.zero_mul,Nat.add_zero] at q0 q1 q2 q3 q4 BM;have Uh:=zh BM;have HE:=zh hE;have hg5:=hSg5.2;clear BM hE lH;go_wp2_with fail;obtain ⟨W6,hW6⟩:∃ W6,(w6.alloc (.cells #[.int .i64 44,.int .i64 fr,.int .i64 Fq,.string ⟨#[]⟩,.slice (some ⟨g5,o5,none⟩) 1 c7] 25)).alloc (.cells #[.int .i64 0,.string ⟨#[]⟩,.int .i64 0] 27)=W6:=⟨_,rfl⟩;rw [hW6];(have hb66:Below w6.heap.size w6 W6:=by rw [← hW6];exact ((Below.refl _ _).alloc (Nat.le_refl _) _).alloc (by simp) _);(have hNb:aj W6 w6.heap.size 25 #[.int .i64 44,.int .i64 fr,.int .i64 Fq,.string ⟨#[]⟩,.slice (some ⟨g5,o5,none⟩) 1 c7]:=by rw [← hW6];exact (aj.new _ _ _).alloc _);(have hNg:aj W6 (w6.heap.size+1) 27 #[.int .i64 0,.string ⟨#[]⟩,.int .i64 0]:=by rw [← hW6];exact aj.new' (by simp));(have GK:W6.heap.size=w6.heap.size+2:=by rw [← hW6];simp);clear hW6;have hA6:Below W1.heap.size W1 W6:=(HBW1.o.trans (HB.o.mono Wp)).trans ((aR.o.mono (by omega)).trans (hb66.mono (by omega)));have HA6:=zh hA6;have HW66:Hd (Below w.heap.size w W6):=zh (HW6.o.trans (hb66.mono (by omega)));have Za:=ZY.o.below hA6 ZY.o.lt;have hwl1:w1.heap.size<W1.heap.size:=ZY.o.lt;have a0:=Za.cell 0;have a1:=Za.cell 1;have a2:=Za.cell 2;have a3:=Za.cell 3;have a4:=Za.cell 4;have b0:=hNb.cell 0;have b4:=hNb.cell 4;have g0:=hNg.cell 0;simp at a0 a1 a2 a3 a4 b0 b4 g0;have p0:=(hb66.cell (p:=⟨g5,o5,none⟩) hg5).trans q0;have p1:=(hb66.cell (p:=⟨g5,o5+1,none⟩) hg5).trans q1;have p2:=(hb66.cell (p:=⟨g5,o5+2,none⟩) hg5).trans q2;have p3:=(hb66.cell (p:=⟨g5,o5+3,none⟩) hg5).trans q3;have p4:=(hb66.cell (p:=⟨g5,o5+4,none⟩) hg5).trans q4;have HKB:=zh hb66;clear q0 q1 q2 q3 q4 Za hNb hNg hA6 hb66
            refine wp_region_held_drew (S:=(fun w'=>w'.cell? ⟨w6.heap.size+1,0,none⟩=some (.int .i64 0)∧w'.cell? ⟨w6.heap.size,0,none⟩=some (.int .i64 44)∧w'.cell? ⟨w6.heap.size,4,none⟩=some (.slice (some ⟨g5,o5,none⟩) 1 c7)∧w'.cell? ⟨w1.heap.size,0,none⟩=some (.int .i64 nk)∧w'.cell? ⟨w1.heap.size,1,none⟩=some (.int .i64 nf)∧w'.cell? ⟨w1.heap.size,2,none⟩=some (.int .i64 P)∧w'.cell? ⟨w1.heap.size,3,none⟩=some (.string Qm)∧w'.cell? ⟨w1.heap.size,4,none⟩=some (.slice A' M_.length c')∧w'.cell? ⟨g5,o5,none⟩=some (.int .i64 n2.k)∧w'.cell? ⟨g5,o5+1,none⟩=some (.int .i64 n2.fr)∧w'.cell? ⟨g5,o5+2,none⟩=some (.int .i64 n2.to)∧w'.cell? ⟨g5,o5+3,none⟩=some (.string n2.tx)∧w'.cell? ⟨g5,o5+4,none⟩=some (.slice B5 n2.ks.length c5))) (by kernel_rfl) (by exact ⟨g0,b0,b4,a0,a1,a2,a3,a4,p0,p1,p2,p3,p4⟩) (fun ac=>?_);refine bw ?_ ac;clear ac;rintro w7 hb ac;refine aK 26 (by kernel_rfl) (fun aF=>?_);have bf:Hd (Below W6.heap.size W6 w7):=zh hb;have fz:=hb.size;clear hb g0 b0 b4 a0 a1 a2 a3 a4 p0 p1 p2 p3 p4;(iterate 20 (refine ao (v:=?_) aF (by decide) (fun _ _ _ h=>h) (Or.inl ⟨by rfl,?_⟩) (by assumption) ?_;rotate_left;(intro W aH;(try dsimp only [ze] at aH);go_simp;first | done | rfl);try simp only [Act.put,cr,cj,ch,UC,UB,VB]));refine fa (by kernel_rfl) (fun K hK=>?_);go_simp
            go_at_call 14
            have UU:bG w7 (fun b=>b<w7.heap.size) (.mk nk nf P Qm M_) [.int .i64 nk,.int .i64 nf,.int .i64 P,.string Qm,.slice A' M_.length c']:=bG.mk_ (n:=.mk nk nf P Qm M_) (HRA.o.keep (aI.of_below (HA6.o.trans (bf.o.mono (by have:=HA6.o.size;omega))) fun b h=>h) fun b h=>by have h:b<W1.heap.size:=h;have:=HA6.o.size;omega);(have UT:bG w7 (fun b=>b<w7.heap.size) n2 [.int .i64 n2.k,.int .i64 n2.fr,.int .i64 n2.to,.string n2.tx,.slice B5 n2.ks.length c5]:=Uh.o.keep (aI.of_below (HKB.o.trans (bf.o.mono (by omega))) fun b h=>h.2) fun b h=>by have:=h.2;omega);have hz6w:=HW6.o.size;refine (Dq UU UT HE.o).mono ?_;rintro e w8 ⟨rfl,R6⟩;have dG:Hd (Below w.heap.size w w8):=zh ((HW66.o.trans (bf.o.mono (by have:=HW66.o.size;omega))).trans (R6.mono (by have:=HW66.o.size;omega)));have lz:=R6.size;clear UU UT;obtain ⟨m0,m1,m2,m3,m4,m5,m6,m7,m8,m9,Yt,Ys,m12⟩:=ac;refine hK.out _ _ (by exact ⟨(R6.cell (p:=⟨w6.heap.size+1,0,none⟩) (by show w6.heap.size+1<_;omega)).trans m0,(R6.cell (p:=⟨w6.heap.size,0,none⟩) (by show w6.heap.size<_;omega)).trans m1,(R6.cell (p:=⟨w6.heap.size,4,none⟩) (by show w6.heap.size<_;omega)).trans m2,(R6.cell (p:=⟨w1.heap.size,0,none⟩) (by show w1.heap.size<_;omega)).trans m3,(R6.cell (p:=⟨w1.heap.size,1,none⟩) (by show w1.heap.size<_;omega)).trans m4,(R6.cell (p:=⟨w1.heap.size,2,none⟩) (by show w1.heap.size<_;omega)).trans m5,(R6.cell (p:=⟨w1.heap.size,3,none⟩) (by show w1.heap.size<_;omega)).trans m6,(R6.cell (p:=⟨w1.heap.size,4,none⟩) (by show w1.heap.size<_;omega)).trans m7,(R6.cell (p:=⟨g5,o5,none⟩) (by show g5<_;omega)).trans m8,(R6.cell (p:=⟨g5,o5+1,none⟩) (by show g5<_;omega)).trans m9,(R6.cell (p:=⟨g5,o5+2,none⟩) (by show g5<_;omega)).trans Yt,(R6.cell (p:=⟨g5,o5+3,none⟩) (by show g5<_;omega)).trans Ys,(R6.cell (p:=⟨g5,o5+4,none⟩) (by show g5<_;omega)).trans m12⟩) (fun ac=>?_);clear hK K R6 m0 m1 m2 m3 m4 m5 m6 m7 m8 m9 Yt Ys m12;(try simp only [Act.put,cr,cj,ch,UC,UB,VB])
            (iterate 2 (refine ao (v:=?_) aF (by decide) (fun _ _ _ h=>h) (Or.inl ⟨by rfl,?_⟩) (by assumption) ?_;rotate_left;(intro W aH;(try dsimp only [ze] at aH);go_simp;first | done | rfl);try simp only [Act.put,cr,cj,ch,UC,UB,VB]));refine fa (by kernel_rfl) (fun K hK=>?_);go_simp
            go_at_call 9
            refine (HA.o _ dG.o).mono ?_;rintro e w9 ⟨rfl,Y4⟩;have eG:Hd (Below w.heap.size w w9):=zh (dG.o.trans (Y4.mono dG.o.size));have nY:=Y4.size;obtain ⟨m0,m1,m2,m3,m4,m5,m6,m7,m8,m9,Yt,Ys,m12⟩:=ac;refine hK.out _ _ (by exact ⟨(Y4.cell (p:=⟨w6.heap.size+1,0,none⟩) (by show w6.heap.size+1<_;omega)).trans m0,(Y4.cell (p:=⟨w6.heap.size,0,none⟩) (by show w6.heap.size<_;omega)).trans m1,(Y4.cell (p:=⟨w6.heap.size,4,none⟩) (by show w6.heap.size<_;omega)).trans m2,(Y4.cell (p:=⟨w1.heap.size,0,none⟩) (by show w1.heap.size<_;omega)).trans m3,(Y4.cell (p:=⟨w1.heap.size,1,none⟩) (by show w1.heap.size<_;omega)).trans m4,(Y4.cell (p:=⟨w1.heap.size,2,none⟩) (by show w1.heap.size<_;omega)).trans m5,(Y4.cell (p:=⟨w1.heap.size,3,none⟩) (by show w1.heap.size<_;omega)).trans m6,(Y4.cell (p:=⟨w1.heap.size,4,none⟩) (by show w1.heap.size<_;omega)).trans m7,(Y4.cell (p:=⟨g5,o5,none⟩) (by show g5<_;omega)).trans m8,(Y4.cell (p:=⟨g5,o5+1,none⟩) (by show g5<_;omega)).trans m9,(Y4.cell (p:=⟨g5,o5+2,none⟩) (by show g5<_;omega)).trans Yt,(Y4.cell (p:=⟨g5,o5+3,none⟩) (by show g5<_;omega)).trans Ys,(Y4.cell (p:=⟨g5,o5+4,none⟩) (by show g5<_;omega)).trans m12⟩) (fun ac=>?_);clear hK K Y4 m0 m1 m2 m3 m4 m5 m6 m7 m8 m9 Yt Ys m12;(try simp only [Act.put,cr,cj,ch,UC,UB,VB]);(iterate 2 (refine ao (v:=?_) aF (by decide) (fun _ _ _ h=>h) (Or.inl ⟨by rfl,?_⟩) (by assumption) ?_;rotate_left;(intro W aH;(try dsimp only [ze] at aH);go_simp;first | done | rfl);try simp only [Act.put,cr,cj,ch,UC,UB,VB]));refine bz ?_;clear aF;clear ac;go_wp2_with fail;go_ret;exact ⟨rfl,eG.o⟩
end
end Go.Proofs.YtfmgdmeopakdaaaGreatDoor
