/- Parts of one proof. -/
import Derived.Test.YtfmgdmeopakdaaaGreatDoorME1
import Derived.Laws.Bits64
import Derived.Deep.LoopGhost
import Derived.LoopN
import Derived.OwnWalk
import Derived.WalkSpells
import Derived.Laws.BitsLemmas
set_option linter.unusedVariables false
set_option linter.unusedSimpArgs false
namespace Go.Proofs.YtfmgdmeopakdaaaGreatDoor
open Go Go.RowKit Go.Lib Tryz
def gb (s:ByteArray) (i:Nat):Nat:=(s.get! i).toNat
theorem yg (s:ByteArray) (i:Nat):gb s i<256:=UInt8.toNat_lt _
theorem lh (s:ByteArray):Utf8.decode s 0=decodeN s.size (gb s 0) (gb s 1) (gb s 2) (gb s 3):=by
  rw [decode_at];rfl
def nP (s:ByteArray):Nat:=if Utf8.decode s 0=(65533,1) then 0 else (Utf8.decode s 0).2
def lead (b N LE U:Nat):Prop:=(194≤b∧b<224∧N=2∧LE=128∧U=b % 32)∨(224≤b∧b<240∧N=3∧LE=2048∧U=b % 16)∨(240≤b∧b<245∧N=4∧LE=65536∧U=b % 8)
def uS (s:ByteArray) (U:Nat):Nat→Nat
  | 0=>U
  | k+1=>uS s U k * 64+gb s (k+1) % 64
def Ad (LE u:Nat):Prop:=u<LE∨1114111<u∨(55296≤u∧u≤57343)
theorem qS {s:ByteArray} (h:Utf8.decode s 0=(65533,1)):nP s=0:=if_pos h
theorem Ls {s:ByteArray} {v N:Nat} (h:Utf8.decode s 0=(v,N)) (hN:N≠1):nP s=N:=by
  unfold nP;rw [h,if_neg];intro e;cases e;exact hN rfl
theorem Iz {s:ByteArray} (h:gb s 0<128):nP s=1:=by
  (have e:Utf8.decode s 0=(gb s 0,1):=by rw [lh,decodeN,if_pos h]);unfold nP;rw [e,if_neg];intro e2;have:=congrArg Prod.fst e2;simp only at this;omega
theorem Fx {s:ByteArray} (h:(128≤gb s 0∧gb s 0<194)∨245≤gb s 0):nP s=0:=by
  apply qS;rw [lh];have h0:=yg s 0;unfold decodeN;rw [if_neg (by omega)]
  (repeat' split) <;> first | rfl | (exfalso;omega)
theorem uV {s:ByteArray} {N LE U:Nat} (h:lead (gb s 0) N LE U) (hs:s.size<N):nP s=0:=by
  apply qS;rw [lh];unfold decodeN;unfold lead at h;rw [if_neg (by omega)]
  (repeat' split) <;> first | rfl | (exfalso;omega)
theorem yT {s:ByteArray} {N LE U j:Nat} (h:lead (gb s 0) N LE U) (h1:1≤j) (h2:j<N) (hc:gb s j / 64≠2):nP s=0:=by
  have hj:(j=1∧gb s 1 / 64≠2)∨(j=2∧gb s 2 / 64≠2)∨(j=3∧gb s 3 / 64≠2):=by
    unfold lead at h;(have:j=1∨j=2∨j=3:=by omega);rcases this with rfl | rfl | rfl
    · exact .inl ⟨rfl,hc⟩
    · exact .inr (.inl ⟨rfl,hc⟩)
    · exact .inr (.inr ⟨rfl,hc⟩)
  clear hc;apply qS;rw [lh];unfold decodeN;unfold lead at h;rw [if_neg (by omega)]
  (repeat' split) <;> first | rfl | (exfalso;omega)
theorem oj {s:ByteArray} {N LE U:Nat} (h:lead (gb s 0) N LE U) (hc:∀ j,1≤j→j<N→gb s j / 64=2) (hb:Ad LE (uS s U (N - 1))):nP s=0:=by
  unfold lead at h;unfold Ad at hb;apply qS;rw [lh];rcases h with ⟨a1,a2,rfl,rfl,rfl⟩ | ⟨a1,a2,rfl,rfl,rfl⟩ | ⟨a1,a2,rfl,rfl,rfl⟩
  · have c1:=hc 1 (by omega) (by omega)
    simp only [Nat.reduceSub,uS,Nat.zero_add] at hb;unfold decodeN
    (repeat' split) <;> first | rfl | (exfalso;omega)
  · have c1:=hc 1 (by omega) (by omega)
    have c2:=hc 2 (by omega) (by omega);simp only [Nat.reduceSub,uS,Nat.zero_add,Nat.reduceAdd] at hb;unfold decodeN
    (repeat' split) <;> first | rfl | (exfalso;omega)
  · have c1:=hc 1 (by omega) (by omega)
    have c2:=hc 2 (by omega) (by omega);have c3:=hc 3 (by omega) (by omega);simp only [Nat.reduceSub,uS,Nat.zero_add,Nat.reduceAdd] at hb;unfold decodeN
    (repeat' split) <;> first | rfl | (exfalso;omega)
theorem qT {s:ByteArray} {N LE U:Nat} (h:lead (gb s 0) N LE U) (hs:N≤s.size) (hc:∀ j,1≤j→j<N→gb s j / 64=2) (hb:¬ Ad LE (uS s U (N - 1))):nP s=N:=by
  unfold lead at h;unfold Ad at hb
  have e:∃ v,Utf8.decode s 0=(v,N):=by
    rw [lh];rcases h with ⟨a1,a2,rfl,rfl,rfl⟩ | ⟨a1,a2,rfl,rfl,rfl⟩ | ⟨a1,a2,rfl,rfl,rfl⟩
    · have c1:=hc 1 (by omega) (by omega)
      simp only [Nat.reduceSub,uS,Nat.zero_add] at hb;unfold decodeN
      (repeat' split) <;> first | exact ⟨_,rfl⟩ | (exfalso;omega)
    · have c1:=hc 1 (by omega) (by omega)
      have c2:=hc 2 (by omega) (by omega);simp only [Nat.reduceSub,uS,Nat.zero_add,Nat.reduceAdd] at hb;unfold decodeN
      (repeat' split) <;> first | exact ⟨_,rfl⟩ | (exfalso;omega)
    · have c1:=hc 1 (by omega) (by omega)
      have c2:=hc 2 (by omega) (by omega);have c3:=hc 3 (by omega) (by omega);simp only [Nat.reduceSub,uS,Nat.zero_add,Nat.reduceAdd] at hb;unfold decodeN
      (repeat' split) <;> first | exact ⟨_,rfl⟩ | (exfalso;omega)
  obtain ⟨v,hv⟩:=e;exact Ls hv (by omega)
theorem zX (s:ByteArray):(Utf8.decode s 0).1=0↔gb s 0=0:=by
  rw [lh];have h0:=yg s 0;unfold decodeN
  (repeat' split) <;> simp only <;> omega
theorem Pq:∀ x:Fin 256,bits .and .i64 ((x.val:Nat):Int) 31=((x.val % 32:Nat):Int):=by decide +kernel
theorem Pr:∀ x:Fin 256,bits .and .i64 ((x.val:Nat):Int) 15=((x.val % 16:Nat):Int):=by decide +kernel
theorem Sy:∀ x:Fin 256,bits .and .i64 ((x.val:Nat):Int) 7=((x.val % 8:Nat):Int):=by decide +kernel
theorem z_:∀ x:Fin 256,bits .and .u8 ((x.val:Nat):Int) 192=((x.val / 64 * 64:Nat):Int):=by decide +kernel
theorem EV:∀ x:Fin 256,bits .and .u8 ((x.val:Nat):Int) 63=((x.val % 64:Nat):Int):=by decide +kernel
theorem J3 (u v:Nat) (hu:u<1099511627776) (hv:v<64):bits .or .i64 ((u:Int) * 64) (v:Int)=((u * 64+v:Nat):Int):=by
  have e:u * 64 ||| v=u * 64+v:=by
    have:=Nat.shiftLeft_add_eq_or_of_lt (b:=v) (i:=6) (by omega) u;rw [Nat.shiftLeft_eq] at this;exact this.symm
  have hx:u * 64 ||| v<2 ^ 63:=by rw [e];omega
  have h1:(BitVec.ofInt 64 ((u:Int) * 64)).toNat=u * 64:=by
    rw [show (u:Int) * 64=((u * 64:Nat):Int) by omega,BitVec.ofInt_natCast,BitVec.toNat_ofNat];exact Nat.mod_eq_of_lt (by omega)
  have h2:(BitVec.ofInt 64 (v:Int)).toNat=v:=by
    rw [BitVec.ofInt_natCast,BitVec.toNat_ofNat];exact Nat.mod_eq_of_lt (by omega)
  show IntKind.i64.wrap ((BitVec.ofInt 64 ((u:Int) * 64) ||| BitVec.ofInt 64 (v:Int)).toNat:Int)=_
  rw [BitVec.toNat_or,h1,h2,IntKind.wrap_i64,e];omega
theorem ext_list (s:ByteArray) (a b:Nat):(s.extract a b).data.toList=(s.data.toList.drop a).take (b - a):=by
  rw [ByteArray.data_extract,Array.toList_extract]
theorem vK (s:ByteArray) (o:Nat):(s.extract o s.size).data.toList=s.data.toList.drop o:=by
  rw [ext_list,List.take_of_length_le];rw [List.length_drop,Array.length_toList];exact Nat.le_refl _
theorem BV {s:ByteArray} {i:Nat} (h:i<s.size):s[i].toNat=gb s i:=by
  unfold gb
  congr 1
  show _=s.data[i]!
  rw [getElem!_pos s.data i h];rfl
theorem Iu (s:ByteArray) {U:Nat} (hU:U≤31):∀ k,k≤3→uS s U k≤8388607
  | 0,_=>by unfold uS;omega
  | 1,_=>by simp only [uS];omega
  | 2,_=>by simp only [uS];omega
  | 3,_=>by simp only [uS];omega
set_option maxHeartbeats 8000000 in
set_option maxRecDepth 100000 in
theorem xc {s:ByteArray} {w:World} (h0:0<s.size) (hs:s.size≤140737488355328) :
    Calls prog 71 #[.string s] w fun e w'=>e = .returned (.int .i64 ((nP s:Nat):Int))∧w'=w:=by
  (have h0I:(0:Int)<(s.size:Int):=by omega);have Mb:=yg s 0;have Ih:=BV h0;obtain ⟨B,hB⟩:∃ B,gb s 0=B:=⟨_,rfl⟩;rw [hB] at Ih Mb;have HB:=zh hB;clear hB;by_cases c1:B<128
  · have HF:Hd (nP s=1):=Iz (by rw [HB.o];exact c1)
    have mA:decide (B<128)=true:=decide_eq_true c1;go_enter func71,ntmps71;go_wp2_with fail;go_ret;exact ⟨by rw [HF.o];rfl,rfl⟩
  have mA:decide (B<128)=false:=decide_eq_false c1;by_cases c2:B<194
  · have HF:Hd (nP s=0):=Fx (by rw [HB.o];omega)
    have hd2:decide (194≤B)=false:=decide_eq_false (by omega);have hd3:decide (224≤B)=false:=decide_eq_false (by omega);have RZ:decide (240≤B)=false:=decide_eq_false (by omega);go_enter func71,ntmps71;go_wp2_with fail;go_ret;exact ⟨by rw [HF.o];rfl,rfl⟩
  have hd2:decide (194≤B)=true:=decide_eq_true (by omega);by_cases c5:245≤B
  · have HF:Hd (nP s=0):=Fx (by rw [HB.o];omega)
    have hd3:decide (B<224)=false:=decide_eq_false (by omega);have RZ:decide (224≤B)=true:=decide_eq_true (by omega);have YW:decide (B<240)=false:=decide_eq_false (by omega);have hd6:decide (240≤B)=true:=decide_eq_true (by omega);have hd7:decide (B<245)=false:=decide_eq_false (by omega);go_enter func71,ntmps71;go_wp2_with fail;go_ret;exact ⟨by rw [HF.o];rfl,rfl⟩
  by_cases c3:B<224
  · have hd3:decide (B<224)=true:=decide_eq_true c3
    (have uN:Hd (lead (gb s 0) 2 128 (B % 32)):=by rw [HB.o];unfold Hd lead;omega);have Eg:=Pq ⟨B,Mb⟩;simp only at Eg;(have BQ:B % 32≤31:=by omega);obtain ⟨U,hU⟩:∃ U,B % 32=U:=⟨_,rfl⟩;rw [hU] at Eg uN BQ;clear hU;by_cases zE:s.size<2
    · have HF:Hd (nP s=0):=uV uN.o zE
      have RY:decide (s.size<2)=true:=decide_eq_true zE;go_enter func71,ntmps71;go_wp2_with fail;go_ret;exact ⟨by rw [HF.o];rfl,rfl⟩
    have RY:decide (s.size<2)=false:=decide_eq_false zE;have TX:Hd (∀ k,k≤3→uS s U k≤8388607):=Iu s BQ;go_enter func71,ntmps71;go_wp2_with fail
    go_loopg [6,7] 2 (fun d uv iv wr=>∃ (j Q:Nat),d=2 - j∧j<2∧iv = .int .i64 ((j+1:Nat):Int)∧uv = .int .i64 (Q:Int)∧Q≤8388607∧Hd (Q=uS s U j)∧Hd (∀ x,1≤x→x<j+1→gb s x / 64=2)∧wr=w)
    case atStart=>exact ⟨0,U,by simp,by omega,rfl,rfl,by omega,rfl,fun x h1 h2=>by omega,rfl⟩
    case round=>
      obtain ⟨j,Q,rfl,hj,rfl,rfl,hQ,HQ,HC,rfl⟩:=hrel;by_cases fs:j+1<2
      · have RE:j+1<s.size:=by omega
        (have RD:((j+1:Nat):Int)<(s.size:Int):=by omega);have R4:=BV RE;have vD:=yg s (j+1);obtain ⟨C,hC⟩:∃ C,gb s (j+1)=C:=⟨_,rfl⟩;rw [hC] at R4 vD;have KW:=zh hC;clear hC;have BS:=z_ ⟨C,vD⟩;have C9:=EV ⟨C,vD⟩;simp only at BS C9;obtain ⟨X,hX⟩:∃ X:Int,((C / 64 * 64:Nat):Int)=X:=⟨_,rfl⟩;obtain ⟨V,hV⟩:∃ V:Nat,C % 64=V:=⟨_,rfl⟩;rw [hX] at BS;rw [hV] at C9;(have Ru:((j:Int)+1<2):=by omega);by_cases hc:C / 64=2
        · have hx:(X == 128)=true:=by rw [beq_iff_eq,← hX,hc];rfl
          have Y3:=J3 Q V (by omega) (by omega);(have C_:Hd (Q * 64+V=uS s U (j+1)):=by unfold Hd;rw [uS,← HQ.o,KW.o,hV]);have R_:Q * 64+V≤8388607:=by have:=TX.o (j+1) (by omega);rw [← C_.o] at this;exact this
          have wH:Hd (∀ x,1≤x→x<j+1+1→gb s x / 64=2):=fun x h1 h2=>by
            by_cases e:x<j+1
            · exact HC.o x h1 e
            · obtain rfl:x=j+1:=by omega
              rw [KW.o];exact hc
          clear hX hV hc HC HQ;go_wp2_with fail
          go_roundg (2 - (j+1))
          case measure=>omega
          case rel=>exact ⟨j+1,Q * 64+V,rfl,by omega,by go_num,rfl,R_,C_.o,wH.o,rfl⟩
        · have hx:(X == 128)=false:=by
            cases e:(X == 128) with
            | false=>rfl
            | true=>
              rw [beq_iff_eq,← hX] at e;exact absurd (by omega) hc
          have HF:Hd (nP s=0):=yT uN.o (by omega) fs (by rw [KW.o];exact hc);clear hX hV hc;go_wp2_with fail;go_ret;exact ⟨by rw [HF.o];rfl,rfl⟩
      · obtain rfl:j=1:=by omega
        have wH:Hd (∀ x,1≤x→x<2→gb s x / 64=2):=fun x h1 h2=>HC.o x h1 (by omega);have CY:Hd (Q=uS s U (2 - 1)):=HQ.o;clear HC HQ;by_cases b1:Q<128
        · have HF:Hd (nP s=0):=oj uN.o wH.o (by rw [← CY.o];exact .inl b1)
          have e1:decide (Q<128)=true:=decide_eq_true b1;go_wp2_with fail;go_ret;exact ⟨by rw [HF.o];rfl,rfl⟩
        have e1:decide (Q<128)=false:=decide_eq_false b1;by_cases b2:1114111<Q
        · have HF:Hd (nP s=0):=oj uN.o wH.o (by rw [← CY.o];exact .inr (.inl b2))
          have e2:decide (1114111<Q)=true:=decide_eq_true b2;go_wp2_with fail;go_ret;exact ⟨by rw [HF.o];rfl,rfl⟩
        have e2:decide (1114111<Q)=false:=decide_eq_false b2;by_cases b3:55296≤Q
        · have e3:decide (55296≤Q)=true:=decide_eq_true b3
          by_cases b4:Q≤57343
          · have HF:Hd (nP s=0):=oj uN.o wH.o (by rw [← CY.o];exact .inr (.inr ⟨b3,b4⟩))
            have e4:decide (Q≤57343)=true:=decide_eq_true b4;go_wp2_with fail;go_ret;exact ⟨by rw [HF.o];rfl,rfl⟩
          · have HF:Hd (nP s=2):=qT uN.o (by omega) wH.o (by rw [← CY.o];unfold Ad;omega)
            have e4:decide (Q≤57343)=false:=decide_eq_false b4;go_wp2_with fail;go_ret;exact ⟨by rw [HF.o];rfl,rfl⟩
        · have HF:Hd (nP s=2):=qT uN.o (by omega) wH.o (by rw [← CY.o];unfold Ad;omega)
          have e3:decide (55296≤Q)=false:=decide_eq_false b3;go_wp2_with fail;go_ret;exact ⟨by rw [HF.o];rfl,rfl⟩
  have hd3:decide (B<224)=false:=decide_eq_false c3;have RZ:decide (224≤B)=true:=decide_eq_true (by omega);by_cases c4:B<240
  · have YW:decide (B<240)=true:=decide_eq_true c4
    (have uN:Hd (lead (gb s 0) 3 2048 (B % 16)):=by rw [HB.o];unfold Hd lead;omega);have Eg:=Pr ⟨B,Mb⟩;simp only at Eg;(have BQ:B % 16≤31:=by omega);obtain ⟨U,hU⟩:∃ U,B % 16=U:=⟨_,rfl⟩;rw [hU] at Eg uN BQ;clear hU;by_cases zE:s.size<3
    · have HF:Hd (nP s=0):=uV uN.o zE
      have RY:decide (s.size<3)=true:=decide_eq_true zE;go_enter func71,ntmps71;go_wp2_with fail;go_ret;exact ⟨by rw [HF.o];rfl,rfl⟩
    have RY:decide (s.size<3)=false:=decide_eq_false zE;have TX:Hd (∀ k,k≤3→uS s U k≤8388607):=Iu s BQ;go_enter func71,ntmps71;go_wp2_with fail
    go_loopg [6,7] 3 (fun d uv iv wr=>∃ (j Q:Nat),d=3 - j∧j<3∧iv = .int .i64 ((j+1:Nat):Int)∧uv = .int .i64 (Q:Int)∧Q≤8388607∧Hd (Q=uS s U j)∧Hd (∀ x,1≤x→x<j+1→gb s x / 64=2)∧wr=w)
    case atStart=>exact ⟨0,U,by simp,by omega,rfl,rfl,by omega,rfl,fun x h1 h2=>by omega,rfl⟩
    case round=>
      obtain ⟨j,Q,rfl,hj,rfl,rfl,hQ,HQ,HC,rfl⟩:=hrel;by_cases fs:j+1<3
      · have RE:j+1<s.size:=by omega
        (have RD:((j+1:Nat):Int)<(s.size:Int):=by omega);have R4:=BV RE;have vD:=yg s (j+1);obtain ⟨C,hC⟩:∃ C,gb s (j+1)=C:=⟨_,rfl⟩;rw [hC] at R4 vD;have KW:=zh hC;clear hC;have BS:=z_ ⟨C,vD⟩;have C9:=EV ⟨C,vD⟩;simp only at BS C9;obtain ⟨X,hX⟩:∃ X:Int,((C / 64 * 64:Nat):Int)=X:=⟨_,rfl⟩;obtain ⟨V,hV⟩:∃ V:Nat,C % 64=V:=⟨_,rfl⟩;rw [hX] at BS;rw [hV] at C9;(have Ru:((j:Int)+1<3):=by omega);by_cases hc:C / 64=2
        · have hx:(X == 128)=true:=by rw [beq_iff_eq,← hX,hc];rfl
          have Y3:=J3 Q V (by omega) (by omega);(have C_:Hd (Q * 64+V=uS s U (j+1)):=by unfold Hd;rw [uS,← HQ.o,KW.o,hV]);have R_:Q * 64+V≤8388607:=by have:=TX.o (j+1) (by omega);rw [← C_.o] at this;exact this
          have wH:Hd (∀ x,1≤x→x<j+1+1→gb s x / 64=2):=fun x h1 h2=>by
            by_cases e:x<j+1
            · exact HC.o x h1 e
            · obtain rfl:x=j+1:=by omega
              rw [KW.o];exact hc
          clear hX hV hc HC HQ;go_wp2_with fail
          go_roundg (3 - (j+1))
          case measure=>omega
          case rel=>exact ⟨j+1,Q * 64+V,rfl,by omega,by go_num,rfl,R_,C_.o,wH.o,rfl⟩
        · have hx:(X == 128)=false:=by
            cases e:(X == 128) with
            | false=>rfl
            | true=>
              rw [beq_iff_eq,← hX] at e;exact absurd (by omega) hc
          have HF:Hd (nP s=0):=yT uN.o (by omega) fs (by rw [KW.o];exact hc);clear hX hV hc;go_wp2_with fail;go_ret;exact ⟨by rw [HF.o];rfl,rfl⟩
      · obtain rfl:j=2:=by omega
        have wH:Hd (∀ x,1≤x→x<3→gb s x / 64=2):=fun x h1 h2=>HC.o x h1 (by omega);have CY:Hd (Q=uS s U (3 - 1)):=HQ.o;clear HC HQ;by_cases b1:Q<2048
        · have HF:Hd (nP s=0):=oj uN.o wH.o (by rw [← CY.o];exact .inl b1)
          have e1:decide (Q<2048)=true:=decide_eq_true b1;go_wp2_with fail;go_ret;exact ⟨by rw [HF.o];rfl,rfl⟩
        have e1:decide (Q<2048)=false:=decide_eq_false b1;by_cases b2:1114111<Q
        · have HF:Hd (nP s=0):=oj uN.o wH.o (by rw [← CY.o];exact .inr (.inl b2))
          have e2:decide (1114111<Q)=true:=decide_eq_true b2;go_wp2_with fail;go_ret;exact ⟨by rw [HF.o];rfl,rfl⟩
        have e2:decide (1114111<Q)=false:=decide_eq_false b2;by_cases b3:55296≤Q
        · have e3:decide (55296≤Q)=true:=decide_eq_true b3
          by_cases b4:Q≤57343
          · have HF:Hd (nP s=0):=oj uN.o wH.o (by rw [← CY.o];exact .inr (.inr ⟨b3,b4⟩))
            have e4:decide (Q≤57343)=true:=decide_eq_true b4;go_wp2_with fail;go_ret;exact ⟨by rw [HF.o];rfl,rfl⟩
          · have HF:Hd (nP s=3):=qT uN.o (by omega) wH.o (by rw [← CY.o];unfold Ad;omega)
            have e4:decide (Q≤57343)=false:=decide_eq_false b4;go_wp2_with fail;go_ret;exact ⟨by rw [HF.o];rfl,rfl⟩
        · have HF:Hd (nP s=3):=qT uN.o (by omega) wH.o (by rw [← CY.o];unfold Ad;omega)
          have e3:decide (55296≤Q)=false:=decide_eq_false b3;go_wp2_with fail;go_ret;exact ⟨by rw [HF.o];rfl,rfl⟩
  have YW:decide (B<240)=false:=decide_eq_false c4;have hd6:decide (240≤B)=true:=decide_eq_true (by omega);have hd7:decide (B<245)=true:=decide_eq_true (by omega);(have uN:Hd (lead (gb s 0) 4 65536 (B % 8)):=by rw [HB.o];unfold Hd lead;omega);have Eg:=Sy ⟨B,Mb⟩;simp only at Eg;(have BQ:B % 8≤31:=by omega);obtain ⟨U,hU⟩:∃ U,B % 8=U:=⟨_,rfl⟩;rw [hU] at Eg uN BQ;clear hU;by_cases zE:s.size<4
  · have HF:Hd (nP s=0):=uV uN.o zE
    have RY:decide (s.size<4)=true:=decide_eq_true zE;go_enter func71,ntmps71;go_wp2_with fail;go_ret;exact ⟨by rw [HF.o];rfl,rfl⟩
  have RY:decide (s.size<4)=false:=decide_eq_false zE;have TX:Hd (∀ k,k≤3→uS s U k≤8388607):=Iu s BQ;go_enter func71,ntmps71;go_wp2_with fail
  go_loopg [6,7] 4 (fun d uv iv wr=>∃ (j Q:Nat),d=4 - j∧j<4∧iv = .int .i64 ((j+1:Nat):Int)∧uv = .int .i64 (Q:Int)∧Q≤8388607∧Hd (Q=uS s U j)∧Hd (∀ x,1≤x→x<j+1→gb s x / 64=2)∧wr=w)
  case atStart=>exact ⟨0,U,by simp,by omega,rfl,rfl,by omega,rfl,fun x h1 h2=>by omega,rfl⟩
  case round=>
    obtain ⟨j,Q,rfl,hj,rfl,rfl,hQ,HQ,HC,rfl⟩:=hrel;by_cases fs:j+1<4
    · have RE:j+1<s.size:=by omega
      (have RD:((j+1:Nat):Int)<(s.size:Int):=by omega);have R4:=BV RE;have vD:=yg s (j+1);obtain ⟨C,hC⟩:∃ C,gb s (j+1)=C:=⟨_,rfl⟩;rw [hC] at R4 vD;have KW:=zh hC;clear hC;have BS:=z_ ⟨C,vD⟩;have C9:=EV ⟨C,vD⟩;simp only at BS C9;obtain ⟨X,hX⟩:∃ X:Int,((C / 64 * 64:Nat):Int)=X:=⟨_,rfl⟩;obtain ⟨V,hV⟩:∃ V:Nat,C % 64=V:=⟨_,rfl⟩;rw [hX] at BS;rw [hV] at C9;(have Ru:((j:Int)+1<4):=by omega);by_cases hc:C / 64=2
      · have hx:(X == 128)=true:=by rw [beq_iff_eq,← hX,hc];rfl
        have Y3:=J3 Q V (by omega) (by omega);(have C_:Hd (Q * 64+V=uS s U (j+1)):=by unfold Hd;rw [uS,← HQ.o,KW.o,hV]);have R_:Q * 64+V≤8388607:=by have:=TX.o (j+1) (by omega);rw [← C_.o] at this;exact this
        have wH:Hd (∀ x,1≤x→x<j+1+1→gb s x / 64=2):=fun x h1 h2=>by
          by_cases e:x<j+1
          · exact HC.o x h1 e
          · obtain rfl:x=j+1:=by omega
            rw [KW.o];exact hc
        clear hX hV hc HC HQ;go_wp2_with fail
        go_roundg (4 - (j+1))
        case measure=>omega
        case rel=>exact ⟨j+1,Q * 64+V,rfl,by omega,by go_num,rfl,R_,C_.o,wH.o,rfl⟩
      · have hx:(X == 128)=false:=by
          cases e:(X == 128) with
          | false=>rfl
          | true=>
            rw [beq_iff_eq,← hX] at e;exact absurd (by omega) hc
        have HF:Hd (nP s=0):=yT uN.o (by omega) fs (by rw [KW.o];exact hc);clear hX hV hc;go_wp2_with fail;go_ret;exact ⟨by rw [HF.o];rfl,rfl⟩
    · obtain rfl:j=3:=by omega
      have wH:Hd (∀ x,1≤x→x<4→gb s x / 64=2):=fun x h1 h2=>HC.o x h1 (by omega);have CY:Hd (Q=uS s U (4 - 1)):=HQ.o;clear HC HQ;by_cases b1:Q<65536
      · have HF:Hd (nP s=0):=oj uN.o wH.o (by rw [← CY.o];exact .inl b1)
        have e1:decide (Q<65536)=true:=decide_eq_true b1;go_wp2_with fail;go_ret;exact ⟨by rw [HF.o];rfl,rfl⟩
      have e1:decide (Q<65536)=false:=decide_eq_false b1;by_cases b2:1114111<Q
      · have HF:Hd (nP s=0):=oj uN.o wH.o (by rw [← CY.o];exact .inr (.inl b2))
        have e2:decide (1114111<Q)=true:=decide_eq_true b2;go_wp2_with fail;go_ret;exact ⟨by rw [HF.o];rfl,rfl⟩
      have e2:decide (1114111<Q)=false:=decide_eq_false b2;by_cases b3:55296≤Q
      · have e3:decide (55296≤Q)=true:=decide_eq_true b3
        by_cases b4:Q≤57343
        · exfalso;omega
        · have HF:Hd (nP s=4):=qT uN.o (by omega) wH.o (by rw [← CY.o];unfold Ad;omega)
          have e4:decide (Q≤57343)=false:=decide_eq_false b4;go_wp2_with fail;go_ret;exact ⟨by rw [HF.o];rfl,rfl⟩
      · exfalso;omega
set_option maxHeartbeats 4000000 in
set_option maxRecDepth 100000 in
theorem kX {s:ByteArray} {w:World} (hs:s.size≤140737488355328) :
    Calls prog 44 #[.string s] w fun e w'=>e = .returned (.bool (gp s s.size 0))∧w'=w:=by
  obtain ⟨r,hr⟩:∃ r,gp s s.size 0=r:=⟨_,rfl⟩;rw [hr];have HV:=zh hr;clear hr;go_enter func44,ntmps44;go_wp2_with fail
  go_loopg [0] s.size (fun d sv wr=>∃ (pos fuel:Nat) (T:ByteArray),d=s.size - pos∧pos≤s.size∧sv = .string T∧T.size=s.size - pos∧Hd (T=s.extract pos s.size)∧Hd (gp s fuel pos=r)∧s.size≤pos+fuel∧wr=w)
  case atStart=>exact ⟨0,s.size,s,by simp,by omega,rfl,by omega,(by unfold Hd;exact ByteArray.extract_zero_size.symm),HV.o,by omega,rfl⟩
  case round=>
    obtain ⟨pos,fuel,T,rfl,cq,rfl,LU,HT,Lm,hfu,rfl⟩:=hrel;by_cases hp:pos<s.size
    · obtain ⟨f,rfl⟩:∃ f,fuel=f+1:=⟨fuel - 1,by omega⟩
      (have Y7:0<T.size:=by omega);(have hT0I:(0:Int)<(T.size:Int):=by omega);have hw:=Nz s pos hp;(have O4:Utf8.decode T 0=Utf8.decode s pos:=by rw [HT.o];exact FY hp);have N_:Hd (∀ W,Calls prog 71 #[.string T] W fun e w'=>e = .returned (.int .i64 ((nP T:Nat):Int))∧w'=W):=fun W=>xc Y7 (by omega);have Ih:=BV Y7;have U3:=zX T
      have Se:∀ n,pos+n≤s.size→T.extract n T.size=s.extract (pos+n) s.size:=fun n hn=>by
        rw [HT.o];apply ByteArray.ext;apply Array.toList_inj.1;rw [vK,vK,vK,List.drop_drop]
      obtain ⟨B,hB⟩:∃ B,gb T 0=B:=⟨_,rfl⟩;rw [hB] at Ih U3;rw [O4] at U3;have Z7:=zh Se;have Yf:=zh U3;have Un:=zh O4;clear hB Se U3 O4;by_cases Eg:Utf8.decode s pos=(65533,1)
      · have HF:Hd (r=false):=by have h1:=Lm.o;rw [AV hp Eg] at h1;exact h1.symm
        have hn:nP T=0:=qS (by rw [Un.o];exact Eg);rw [hn] at N_;clear Eg hw hn;go_wp2_with (go_at_call 71;refine (N_.o _).mono ?_;rintro e w' ⟨rfl,rfl⟩);go_ret;exact ⟨by rw [HF.o];rfl,rfl⟩
      · have hn:nP T=(Utf8.decode s pos).2:=by unfold nP;rw [Un.o,if_neg Eg]
        rw [hn] at N_;have ux:Hd ((Utf8.decode s pos).1≠0→gp s (f+1) pos=gp s f (pos+(Utf8.decode s pos).2)):=fun h0=>xR hp h0 Eg;have HZ:Hd ((Utf8.decode s pos).1=0→gp s (f+1) pos=false):=fun h=>xQ hp h;clear hn Eg Un;obtain ⟨n,hn⟩:∃ n,(Utf8.decode s pos).2=n:=⟨_,rfl⟩;rw [hn] at N_ ux hw;clear hn;obtain ⟨D7,K8⟩:=hw
        have Ns:(((n:Nat):Int) == 0)=false:=by
          cases e:(((n:Nat):Int) == 0) with
          | false=>rfl
          | true=>exact absurd (by have:=beq_iff_eq.1 e;omega) (show ¬ n=0 by omega)
        by_cases vE:B=0
        · have HF:Hd (r=false):=by have h1:=Lm.o;rw [HZ.o (Yf.o.2 vE)] at h1;exact h1.symm
          (have hdb:(((B:Nat):Int) == 0)=true:=by rw [vE];rfl);clear vE;go_wp2_with (go_at_call 71;refine (N_.o _).mono ?_;rintro e w' ⟨rfl,rfl⟩);go_ret;exact ⟨by rw [HF.o];rfl,rfl⟩
        · have HF:Hd (gp s f (pos+n)=r):=by have h1:=Lm.o;rw [ux.o (fun h=>vE (Yf.o.1 h))] at h1;exact h1
          have hdb:(((B:Nat):Int) == 0)=false:=by
            cases e:(((B:Nat):Int) == 0) with
            | false=>rfl
            | true=>exact absurd (by have:=beq_iff_eq.1 e;omega) vE
          (have hnT:n≤T.size:=by omega);have fH:Hd (T.extract n T.size=s.extract (pos+n) s.size):=Z7.o n K8;(have Y6:(T.extract n T.size).size=s.size - (pos+n):=by rw [ByteArray.size_extract];omega);have HTZ:=zh Y6;clear vE Y6 Z7 Yf ux HZ LU;go_wp2_with (go_at_call 71;refine (N_.o _).mono ?_;rintro e w' ⟨rfl,rfl⟩)
          go_roundg (s.size - (pos+n))
          case measure=>omega
          case rel=>exact ⟨pos+n,f,_,rfl,K8,rfl,HTZ.o,fH.o,HF.o,by omega,rfl⟩
    · have HF:Hd (r=true):=by have h1:=Lm.o;rw [AU hp] at h1;exact h1.symm
      (have hTz:T.size=0:=by omega);(have hTI:¬(0:Int)<(T.size:Int):=by omega);go_wp2_with fail;go_ret;exact ⟨by rw [HF.o];rfl,rfl⟩
end Go.Proofs.YtfmgdmeopakdaaaGreatDoor
