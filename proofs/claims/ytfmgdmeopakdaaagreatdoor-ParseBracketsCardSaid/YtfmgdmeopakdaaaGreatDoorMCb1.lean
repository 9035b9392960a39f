/- Parts of one proof. -/
import Derived.Test.YtfmgdmeopakdaaaGreatDoorME1
import Derived.Test.YtfmgdmeopakdaaaGreatDoorMB1
import Derived.Test.YtfmgdmeopakdaaaGreatDoorMD1
import Derived.Recover
import Derived.Test.YtfmgdmeopakdaaaGreatDoorMB6
import Derived.Laws.EntriesVeiled
import Derived.Test.YtfmgdmeopakdaaaGreatDoorMNb1
import Derived.Test.YtfmgdmeopakdaaaGreatDoorME2
import Derived.Test.YtfmgdmeopakdaaaGreatDoorME3
set_option linter.unusedVariables false
set_option linter.unusedSimpArgs false
namespace Go.Proofs.YtfmgdmeopakdaaaGreatDoor
open Go Go.RowKit Tryz
def lW (c:UInt8) (t:List UInt8) (p:Nat) (l:List Tk):Except Int (Nat×List Tk):=
    if c=10 then .ok (1,bB p l)
    else if c=32∨c=9∨c=13 then .ok (1,l)
    else if c=47∧(t.headD 0=47∨t.headD 0=42) then
      match dK (c :: t) with
      | none=>.error p
      | some n=>.ok (n,if 0≤Lib.indexByte ((c :: t).take n) 10 then bB p l else l)
    else if 60<dq (c :: t) then .error p
    else if 0<dq (c :: t) then .ok (dq (c :: t),l ++ [⟨if j7 (bs ((c :: t).take (dq (c :: t))))=true then 4 else 1,p,p+dq (c :: t),bs ((c :: t).take (dq (c :: t)))⟩])
    else if dZ c=true then
      match gl (c :: t) with
      | none=>.error p
      | some n=>.ok (n,l ++ [⟨2,p,p+n,bs ((c :: t).take n)⟩])
    else if c=34 then
      match bP p t (p+1) [] with
      | .error e=>.error e
      | .ok (q,tx)=>.ok (q - p,l ++ [⟨3,p,q,bs tx⟩])
    else if c=59 then .ok (1,l ++ [⟨6,p,p+1,⟨#[59]⟩⟩])
    else if ce (bs (c :: t))=0 then .error p
    else .ok (ce (bs (c :: t)),l ++ [⟨5,p,p+ce (bs (c :: t)),bs ((c :: t).take (ce (bs (c :: t))))⟩])
def uY (r:List UInt8) (p:Nat) (l:List Tk):Except Int (Nat×List Tk):=match r with
  | []=>.error p
  | c :: t=>lW c t p l
theorem q8 (f:Nat) (c:UInt8) (t:List UInt8) (p:Nat) (l:List Tk):aX (f+1) (c :: t) p l=match uY (c :: t) p l with
    | .error e=>.error e
    | .ok (n,l')=>aX f ((c :: t).drop n) (p+n) l':=by
  have e:uY (c :: t) p l=lW c t p l:=rfl;rw [e]
  conv=>lhs;unfold aX
  unfold lW;by_cases h1:c=10
  · rw [if_pos h1,if_pos h1];rfl
  rw [if_neg h1,if_neg h1];by_cases h2:c=32∨c=9∨c=13
  · rw [if_pos h2,if_pos h2];rfl
  rw [if_neg h2,if_neg h2];by_cases h3:c=47∧(t.headD 0=47∨t.headD 0=42)
  · rw [if_pos h3,if_pos h3]
    cases dK (c :: t) <;> rfl
  rw [if_neg h3,if_neg h3];by_cases h4:60<dq (c :: t)
  · rw [if_pos h4,if_pos h4]
  rw [if_neg h4,if_neg h4];by_cases h5:0<dq (c :: t)
  · rw [if_pos h5,if_pos h5]
  rw [if_neg h5,if_neg h5];by_cases h6:dZ c=true
  · rw [if_pos h6,if_pos h6]
    cases gl (c :: t) <;> rfl
  rw [if_neg h6,if_neg h6];by_cases h7:c=34
  · rw [if_pos h7,if_pos h7]
    cases h:bP p t (p+1) [] with
    | error e=>rfl
    | ok qt=>
      obtain ⟨q,tx⟩:=qt;have:=(dE t (p+1) [] h).1
      show aX f _ q _=aX f _ (p+(q - p)) _
      rw [show p+(q - p)=q by omega]
  rw [if_neg h7,if_neg h7];by_cases h8:c=59
  · rw [if_pos h8,if_pos h8];rfl
  rw [if_neg h8,if_neg h8];by_cases h9:ce (bs (c :: t))=0
  · rw [if_pos h9,if_pos h9]
  rw [if_neg h9,if_neg h9]
def kt (t:Tk):Int×ByteArray:=(t.k,t.tx)
def jE (l:List Tk):List (Int×ByteArray):=l.map kt
theorem uC {l l0:List Tk} (h:jE l=jE l0):l.length=l0.length:=by
  have:=congrArg List.length h
  simpa [jE] using this
theorem BB {l l0:List Tk} {z z0:Tk} (h:jE l=jE l0) (hz:kt z=kt z0):jE (l ++ [z])=jE (l0 ++ [z0]):=by
  unfold jE at h ⊢;rw [List.map_append,List.map_append,h,List.map_cons,List.map_cons,hz,List.map_nil]
theorem JW {t t0:Tk} (h:kt t=kt t0):mF t=mF t0:=by
  have h1:t.k=t0.k:=congrArg Prod.fst h;have h2:t.tx=t0.tx:=congrArg Prod.snd h;unfold mF;rw [h1,h2]
theorem GH {l l0:List Tk} {p p0:Int} (h:jE l=jE l0):jE (bB p l)=jE (bB p0 l0):=by
  have e:l.getLast?.map kt=l0.getLast?.map kt:=by
    rw [← List.getLast?_map,← List.getLast?_map];exact congrArg _ h
  unfold bB;cases h1:l.getLast? with
  | none=>
    cases h2:l0.getLast? with
    | none=>exact h
    | some y=>rw [h1,h2] at e;cases e
  | some x=>
    cases h2:l0.getLast? with
    | none=>rw [h1,h2] at e;cases e
    | some y=>
      rw [h1,h2] at e;have e:kt x=kt y:=Option.some.inj e;simp only [JW e];split
      · exact BB h rfl
      · exact h
def E6 (pre:List Tk):Prop:=∀ p,bB p pre=pre
theorem Jc {pre:List Tk} (hp:E6 pre) (l:List Tk) (p:Int):bB p (pre ++ l)=pre ++ bB p l:=by
  rcases List.eq_nil_or_concat l with rfl | ⟨m,x,rfl⟩
  · rw [List.append_nil,hp]
    simp [bB]
  · have e:(pre ++ (m ++ [x])).getLast? = some x:=by rw [← List.append_assoc];simp
    (have e2:(m ++ [x]).getLast? = some x:=by simp);unfold bB;simp only [List.concat_eq_append];rw [e,e2];simp only;split
    · rw [List.append_assoc]
    · rfl
theorem zy {pre l l0:List Tk} {p p0:Int} (hp:E6 pre) (h:jE (pre ++ l)=jE l0):jE (pre ++ bB p l)=jE (bB p0 l0):=by
  rw [← Jc hp];exact GH h
theorem o6 {pre l l0:List Tk} {z z0:Tk} (h:jE (pre ++ l)=jE l0) (hz:kt z=kt z0):jE (pre ++ (l ++ [z]))=jE (l0 ++ [z0]):=by
  rw [← List.append_assoc];exact BB h hz
theorem qh {fr fr':Nat}:∀ (r:List UInt8) (p p':Nat) (acc:List UInt8) {n:Nat} {tx:List UInt8},bP fr r p acc = .ok (p+n,tx)→bP fr' r p' acc = .ok (p'+n,tx)
  | [],p,p',acc,n,tx,h=>by simp [bP] at h
  | c :: t,p,p',acc,n,tx,h=>by
    unfold bP at h ⊢;split
    · rename_i h1;rw [if_pos h1] at h;cases h
    rename_i h1;rw [if_neg h1] at h
    split
    · rename_i h2
      rw [if_pos h2] at h;have h:(Except.ok (p+1,acc):Except Int (Nat×List UInt8)) = .ok (p+n,tx):=h
      injection h with h
      injection h with h3 h4
      (obtain rfl:n=1:=by omega);rw [h4]
    rename_i h2;rw [if_neg h2] at h
    split
    · rename_i h3
      rw [if_pos h3] at h;cases t with
      | nil=>cases h
      | cons e t'=>
        simp only at h ⊢;cases he:oG e with
        | none=>rw [he] at h;cases h
        | some x=>
          rw [he] at h;simp only at h ⊢;have hb:=(dE t' (p+2) _ h).1;have:=qh (fr:=fr) (fr':=fr') t' (p+2) (p'+2) (acc ++ [x]) (n:=n - 2) (tx:=tx) (by rw [show p+2+(n - 2)=p+n by omega];exact h);rw [show p'+n=p'+2+(n - 2) by omega];exact this
    rename_i h3;rw [if_neg h3] at h
    have hb:=(dE t (p+1) _ h).1;have:=qh (fr:=fr) (fr':=fr') t (p+1) (p'+1) (acc ++ [c]) (n:=n - 1) (tx:=tx) (by rw [show p+1+(n - 1)=p+n by omega];exact h);rw [show p'+n=p'+1+(n - 1) by omega];exact this
theorem oq {r:List UInt8} {p n:Nat} {l l':List Tk} (h:uY r p l = .ok (n,l')):1≤n∧n≤r.length∧(l'=l∨l'=bB p l∨∃ z:Tk,l'=l ++ [z]∧z.fr=(p:Int)∧z.to=(p:Int)+n∧z.k≠7):=by
  cases r with
  | nil=>cases h
  | cons c t=>
    have h:lW c t p l = .ok (n,l'):=h;unfold lW at h;split at h
    · cases h;exact ⟨by omega,by simp,.inr (.inl rfl)⟩
    split at h
    · cases h;exact ⟨by omega,by simp,.inl rfl⟩
    split at h
    · rename_i Ik
      cases hr:dK (c :: t) with
      | none=>rw [hr] at h;cases h
      | some k=>
        rw [hr] at h;have hb:=lF hr ⟨t,by rw [Ik.1]⟩;cases h;refine ⟨hb.1,hb.2,?_⟩;split
        · exact .inr (.inl rfl)
        · exact .inl rfl
    split at h
    · cases h
    split at h
    · cases h
      refine ⟨by omega,kZ,.inr (.inr ⟨_,rfl,rfl,rfl,?_⟩)⟩
      show (if _ then (4:Int) else 1)≠7
      split <;> decide
    split at h
    · rename_i hd
      cases hr:gl (c :: t) with
      | none=>rw [hr] at h;cases h
      | some k=>
        rw [hr] at h;have hb:=rj hr hd;cases h;exact ⟨hb.1,hb.2,.inr (.inr ⟨_,rfl,rfl,rfl,by show (2:Int)≠7;decide⟩)⟩
    split at h
    · cases hr:bP p t (p+1) [] with
      | error e=>rw [hr] at h;cases h
      | ok qt=>
        obtain ⟨q,tx⟩:=qt;rw [hr] at h;have hb:=dE t (p+1) [] hr;have h:(Except.ok (q - p,l ++ [⟨3,p,q,bs tx⟩]):Except Int (Nat×List Tk)) = .ok (n,l'):=h
        injection h with h
        injection h with h1 h2
        subst h1 h2;exact ⟨by omega,by simp;omega,.inr (.inr ⟨_,rfl,rfl,by show (q:Int)=p+((q - p:Nat):Int);omega,by show (3:Int)≠7;decide⟩)⟩
    split at h
    · cases h
      exact ⟨by omega,by simp,.inr (.inr ⟨_,rfl,rfl,by show (p:Int)+1=p+((1:Nat):Int);omega,by show (6:Int)≠7;decide⟩)⟩
    split at h
    · cases h
    · cases h
      (have je:(bs (c :: t)).size=(c :: t).length:=by simp [bs,ByteArray.size]);have:=qX (s:=bs (c :: t)) (by rw [je];simp);rw [je] at this;exact ⟨by omega,this,.inr (.inr ⟨_,rfl,rfl,rfl,by show (5:Int)≠7;decide⟩)⟩
theorem xS {pre:List Tk} (ub:E6 pre) {r:List UInt8} {p p0 n:Nat} {l l0 l':List Tk} (hk:jE (pre ++ l)=jE l0) (h:uY r p l = .ok (n,l')):∃ Qn,uY r p0 l0 = .ok (n,Qn)∧jE (pre ++ l')=jE Qn:=by
  cases r with
  | nil=>cases h
  | cons c t=>
    have h:lW c t p l = .ok (n,l'):=h
    show ∃ Qn,lW c t p0 l0=_∧_
    unfold lW at h ⊢;split at h
    · rename_i h1
      cases h;rw [if_pos h1];exact ⟨_,rfl,zy ub hk⟩
    rename_i h1;rw [if_neg h1]
    split at h
    · rename_i h1
      cases h;rw [if_pos h1];exact ⟨_,rfl,hk⟩
    rename_i h1;rw [if_neg h1]
    split at h
    · rename_i h1
      rw [if_pos h1];cases hr:dK (c :: t) with
      | none=>rw [hr] at h;cases h
      | some k=>
        rw [hr] at h;cases h;refine ⟨_,rfl,?_⟩;split
        · exact zy ub hk
        · exact hk
    rename_i h1;rw [if_neg h1]
    split at h
    · cases h
    rename_i h1;rw [if_neg h1]
    split at h
    · rename_i h1
      cases h;rw [if_pos h1];exact ⟨_,rfl,o6 hk rfl⟩
    rename_i h1;rw [if_neg h1]
    split at h
    · rename_i h1
      rw [if_pos h1];cases hr:gl (c :: t) with
      | none=>rw [hr] at h;cases h
      | some k=>
        rw [hr] at h;cases h;exact ⟨_,rfl,o6 hk rfl⟩
    rename_i h1;rw [if_neg h1]
    split at h
    · rename_i h1
      rw [if_pos h1];cases hr:bP p t (p+1) [] with
      | error e=>rw [hr] at h;cases h
      | ok qt=>
        obtain ⟨q,tx⟩:=qt;rw [hr] at h;have hb:=dE t (p+1) [] hr;have h:(Except.ok (q - p,l ++ [⟨3,p,q,bs tx⟩]):Except Int (Nat×List Tk)) = .ok (n,l'):=h
        injection h with h
        injection h with h1 h2
        subst h1 h2;have:=qh (fr':=p0) t (p+1) (p0+1) [] (n:=q - (p+1)) (tx:=tx) (by rw [show p+1+(q - (p+1))=q by omega];exact hr);rw [this];refine ⟨l0 ++ [⟨3,p0,(p0+1+(q - (p+1)):Nat),bs tx⟩],?_,o6 hk rfl⟩
        show Except.ok (p0+1+(q - (p+1)) - p0,_)=Except.ok (q - p,_)
        rw [show p0+1+(q - (p+1)) - p0=q - p by omega]
    rename_i h1;rw [if_neg h1]
    split at h
    · rename_i h1
      cases h;rw [if_pos h1];exact ⟨_,rfl,o6 hk rfl⟩
    rename_i h1;rw [if_neg h1]
    split at h
    · cases h
    · rename_i h1
      cases h;rw [if_neg h1];exact ⟨_,rfl,o6 hk rfl⟩
def scn (r:List UInt8) (p:Nat) (l:List Tk):Except Int (List Tk):=aX (r.length+1) r p l
theorem xU:∀ (f f':Nat) (r:List UInt8) (p:Nat) (l:List Tk),r.length<f→r.length<f'→aX f r p l=aX f' r p l
  | 0,_,_,_,_,h,_=>absurd h (Nat.not_lt_zero _)
  | _,0,_,_,_,_,h=>absurd h (Nat.not_lt_zero _)
  | f+1,f'+1,[],p,l,_,_=>rfl
  | f+1,f'+1,c :: t,p,l,h,h'=>by
    rw [q8,q8];cases hs:uY (c :: t) p l with
    | error e=>rfl
    | ok nl=>
      obtain ⟨n,l'⟩:=nl;have hb:=oq hs;exact xU f f' _ _ _ (by rw [List.length_drop];simp at h hb ⊢;omega) (by rw [List.length_drop];simp at h' hb ⊢;omega)
theorem q7 (p:Nat) (l:List Tk):scn [] p l = .ok (bB p l ++ [⟨7,p,p,⟨#[]⟩⟩]):=rfl
theorem lX {r:List UInt8} {p n:Nat} {l l':List Tk} (h:uY r p l = .ok (n,l')):scn r p l=scn (r.drop n) (p+n) l':=by
  have hb:=oq h;cases r with
  | nil=>cases h
  | cons c t=>
    unfold scn;rw [q8,h];exact xU _ _ _ _ _ (by rw [List.length_drop];simp at hb ⊢;omega) (by omega)
theorem Dn {r:List UInt8} {p:Nat} {l ts:List Tk} (h0:r≠[]) (h:scn r p l = .ok ts):∃ n l',uY r p l = .ok (n,l'):=by
  cases r with
  | nil=>exact absurd rfl h0
  | cons c t=>
    unfold scn at h;rw [q8] at h;cases hs:uY (c :: t) p l with
    | error e=>rw [hs] at h;cases h
    | ok nl=>exact ⟨nl.1,nl.2,rfl⟩
theorem xT {pre:List Tk} (ub:E6 pre):∀ (k:Nat) (r:List UInt8) (p p0:Nat) (l l0 ts:List Tk),r.length≤k→jE (pre ++ l)=jE l0→scn r p l = .ok ts→∃ V7,scn r p0 l0 = .ok V7∧jE (pre ++ ts)=jE V7
  | _,[],p,p0,l,l0,ts,_,hk,h=>by
    rw [q7] at h;cases h;exact ⟨_,q7 _ _,o6 (zy ub hk) rfl⟩
  | 0,c :: t,_,_,_,_,_,h,_,_=>by simp at h
  | k+1,c :: t,p,p0,l,l0,ts,hl,hk,h=>by
    obtain ⟨n,l',hs⟩:=Dn (by simp) h;obtain ⟨Qn,hs0,UZ⟩:=xS ub (p0:=p0) hk hs;have hb:=oq hs;rw [lX hs] at h;rw [lX hs0];exact xT ub k _ _ _ _ _ _ (by rw [List.length_drop];simp at hl ⊢;omega) UZ h
def Hf (l:List Tk) (p:Int):Prop:=(∀ t ∈ l,0≤t.fr∧t.fr≤t.to∧t.to≤p)∧l.Pairwise fun x y=>x.to≤y.fr
theorem Hf.up {l:List Tk} {p q:Int} (h:Hf l p) (hq:p≤q):Hf l q:=⟨fun t ht=>by have:=h.1 t ht;omega,h.2⟩
theorem Hf.app {l:List Tk} {p q:Int} {z:Tk} (h:Hf l p) (h0:0≤p) (h1:p≤z.fr) (h2:z.fr≤z.to) (h3:z.to≤q):Hf (l ++ [z]) q:=by
  refine ⟨fun t ht=>?_,?_⟩
  · rcases List.mem_append.1 ht with ht | ht
    · have:=h.1 t ht;omega
    · simp only [List.mem_singleton] at ht
      subst ht;omega
  · rw [List.pairwise_append]
    refine ⟨h.2,by simp,fun x hx y hy=>?_⟩;simp only [List.mem_singleton] at hy;subst hy;have:=h.1 x hx;omega
theorem Hf.line {l:List Tk} {p:Nat} (h:Hf l p):Hf (bB p l) p:=by
  unfold bB
  repeat' split
  all_goals first | exact h | exact h.app (by omega) (Int.le_refl _) (Int.le_refl _) (Int.le_refl _)
theorem fR:∀ (f:Nat) (r:List UInt8) (p:Nat) (l:List Tk) {l':List Tk},Hf l p→aX f r p l = .ok l'→∃ q:Nat,Hf l' q
  | 0,r,p,l,l',hl,h=>by
    have h:Except.ok l=(Except.ok l':Except Int (List Tk)):=h;cases h;exact ⟨p,hl⟩
  | f+1,[],p,l,l',hl,h=>by
    have h:Except.ok (bB p l ++ [⟨7,p,p,⟨#[]⟩⟩])=(Except.ok l':Except Int (List Tk)):=h;cases h;exact ⟨p,hl.line.app (by omega) (Int.le_refl _) (Int.le_refl _) (Int.le_refl _)⟩
  | f+1,c :: t,p,l,l',hl,h=>by
    have ad:∀ (k:Nat) (kd:Int) (tx:ByteArray),Hf (l ++ [⟨kd,p,(p:Int)+k,tx⟩]) ((p+k:Nat):Int):=fun k kd tx=>hl.app (by omega) (Int.le_refl _) (by show (p:Int)≤p+k;omega) (by show (p:Int)+k≤_;omega);unfold aX at h;split at h
    · exact fR f t _ _ (hl.line.up (by omega)) h
    split at h
    · exact fR f t _ _ (hl.up (by omega)) h
    split at h
    · cases hr:dK (c :: t) with
      | none=>rw [hr] at h;cases h
      | some n=>
        rw [hr] at h;simp only at h;by_cases h3:0≤Lib.indexByte ((c :: t).take n) 10
        · rw [if_pos h3] at h
          exact fR f _ _ _ (hl.line.up (by omega)) h
        · rw [if_neg h3] at h
          exact fR f _ _ _ (hl.up (by omega)) h
    split at h
    · cases h
    split at h
    · exact fR f _ _ _ (ad _ _ _) h
    split at h
    · cases hr:gl (c :: t) with
      | none=>rw [hr] at h;cases h
      | some n=>
        rw [hr] at h;exact fR f _ _ _ (ad _ _ _) h
    split at h
    · cases hr:bP p t (p+1) [] with
      | error e=>rw [hr] at h;cases h
      | ok qt=>
        obtain ⟨q,tx⟩:=qt;rw [hr] at h;have hb:=(dE t (p+1) [] hr).1;exact fR f _ _ _ (hl.app (by omega) (Int.le_refl _) (by show (p:Int)≤q;omega) (Int.le_refl _)) h
    split at h
    · exact fR f t _ _ (by simpa using ad 1 6 ⟨#[59]⟩) h
    split at h
    · cases h
    · exact fR f _ _ _ (ad _ _ _) h
theorem scanM_rise {s:ByteArray} {l:List Tk} (h:ee s = .ok l):∃ q:Nat,Hf l q:=by
  unfold ee at h;split at h
  · cases h
  · cases hq:aX (s.size+1) s.data.toList 0 [] with
    | error p=>rw [hq] at h;cases h
    | ok l2=>
      rw [hq] at h;cases h;exact fR _ _ _ _ ⟨by simp,by simp⟩ hq
theorem uU {P:UInt8→Bool} {v w:List UInt8} {x:UInt8} (hx:P x=false):∀ a:List UInt8,((a ++ v).takeWhile P).length≤a.length→((a ++ x :: w).takeWhile P).length=((a ++ v).takeWhile P).length
  | [],h=>by
    rw [List.nil_append,List.nil_append] at *;rw [List.takeWhile_cons,hx,if_neg (by decide)];simp only [List.length_nil] at h ⊢;omega
  | c :: a,h=>by
    rw [List.cons_append,List.cons_append] at *;rw [List.takeWhile_cons] at h;rw [List.takeWhile_cons,List.takeWhile_cons];split
    · rename_i h1
      rw [if_pos h1] at h;simp only [List.length_cons] at h ⊢;rw [uU (v:=v) (w:=w) hx a (by omega)]
    · rfl
theorem BG {b:UInt8} {v v':List UInt8}:∀ (a:List UInt8) {i:Nat},Lib.indexByte (a ++ v) b=i→i<a.length→Lib.indexByte (a ++ v') b=i
  | [],i,_,h=>by simp at h
  | c :: a,i,h,hi=>by
    rw [List.cons_append] at *;unfold Lib.indexByte at h ⊢;split
    · rename_i h1;rw [if_pos h1] at h;exact h
    rename_i h1;rw [if_neg h1] at h
    have hg:=Lib.indexByte_ge (a ++ v) b;by_cases h2:Lib.indexByte (a ++ v) b = -1
    · rw [h2] at h;simp at h
    · rw [if_neg (by simpa using h2)] at h
      have:=BG (v':=v') a (i:=i - 1) (b:=b) (v:=v) (by omega) (by simp at hi;omega);rw [this];simp;omega
theorem zB {b:UInt8}:∀ (r:List UInt8) {i:Nat},(Lib.indexByte r b<0∨Lib.indexByte r b=i)→Lib.indexByte (r.take i) b<0
  | [],i,_=>by simp [Lib.indexByte]
  | c :: r,0,_=>by simp [Lib.indexByte]
  | c :: r,i+1,h=>by
    rw [List.take_succ_cons];have hg:=Lib.indexByte_ge r b;unfold Lib.indexByte at h ⊢;by_cases h1:(c == b)=true
    · rw [if_pos h1] at h;omega
    · rw [if_neg h1] at h ⊢
      have:=zB (b:=b) r (i:=i) (by
        by_cases h2:(Lib.indexByte r b == -1)=true
        · have:=beq_iff_eq.1 h2;exact .inl (by omega)
        · rw [if_neg h2] at h
          (have h2:Lib.indexByte r b≠-1:=by simpa using h2);rcases h with h | h
          · omega
          · exact .inr (by omega))
      have JB:=Lib.indexByte_ge (r.take i) b;(have e:Lib.indexByte (r.take i) b = -1:=by omega);rw [e]
      decide
theorem FL {b:UInt8} {v:List UInt8}:∀ (a:List UInt8),Lib.indexByte (a ++ v) b=a.length→v.headD b=b
  | [],h=>by
    cases v with
    | nil=>rfl
    | cons x v=>
      rw [List.nil_append] at h;unfold Lib.indexByte at h;split at h
      · rename_i h1;exact beq_iff_eq.1 h1
      · have:=Lib.indexByte_ge v b
        split at h
        · simp at h
        · rename_i h2
          (have h2:Lib.indexByte v b≠-1:=by simpa using h2);have h:Lib.indexByte v b+1=0:=h;omega
  | c :: a,h=>by
    rw [List.cons_append] at h;have hg:=Lib.indexByte_ge (a ++ v) b;unfold Lib.indexByte at h;split at h
    · simp at h;omega
    split at h
    · simp at h;omega
    · exact FL a (by simp at h;omega)
theorem BE {p q:UInt8} {v v':List UInt8}:∀ (a:List UInt8) {i:Nat},Lib.index (a ++ v) [p,q]=i→i+2≤a.length→Lib.index (a ++ v') [p,q]=i
  | [],i,_,h=>by simp at h
  | [c],i,_,h=>by simp at h
  | c :: e :: a,i,h,hi=>by
    (have hp:∀ z,[p,q].isPrefixOf (c :: e :: a ++ z)=(p == c && (q == e)):=fun z=>by simp [List.isPrefixOf]);rw [List.cons_append] at h ⊢;unfold Lib.index at h ⊢;rw [← List.cons_append,hp] at h ⊢;split
    · rename_i h1;rw [if_pos h1] at h;exact h
    rename_i h1;rw [if_neg h1] at h
    have hg:=Lib.index_ge (e :: a ++ v) [p,q];by_cases h2:Lib.index (e :: a ++ v) [p,q] = -1
    · rw [h2] at h;simp at h
    · rw [if_neg (by simpa using h2)] at h
      have:=BE (v':=v') (e :: a) (i:=i - 1) (p:=p) (q:=q) (v:=v) (by omega) (by simp at hi ⊢;omega);rw [this];simp;omega
theorem qi {fr:Nat} {v v':List UInt8}:∀ (a:List UInt8) (p:Nat) (acc:List UInt8) {q:Nat} {tx:List UInt8},bP fr (a ++ v) p acc = .ok (q,tx)→q≤p+a.length→bP fr (a ++ v') p acc = .ok (q,tx)
  | [],p,acc,q,tx,h,hq=>by
    have:=(dE _ _ _ h).1;simp at hq;omega
  | c :: a,p,acc,q,tx,h,hq=>by
    rw [List.cons_append] at h ⊢;unfold bP at h ⊢;split
    · rename_i h1;rw [if_pos h1] at h;cases h
    rename_i h1;rw [if_neg h1] at h
    split
    · rename_i h2;rw [if_pos h2] at h;exact h
    rename_i h2;rw [if_neg h2] at h
    split
    · rename_i h3
      rw [if_pos h3] at h;cases a with
      | nil=>
        cases v with
        | nil=>cases h
        | cons e t'=>
          rw [List.nil_append] at h;simp only at h;cases he:oG e with
          | none=>rw [he] at h;cases h
          | some x=>
            rw [he] at h;have:=(dE _ _ _ h).1;simp at hq;omega
      | cons e t'=>
        rw [List.cons_append] at h ⊢;simp only at h ⊢;cases he:oG e with
        | none=>rw [he] at h;cases h
        | some x=>
          rw [he] at h;simp only at h ⊢;exact qi t' _ _ h (by simp at hq;omega)
    rename_i h3;rw [if_neg h3] at h
    exact qi a _ _ h (by simp at hq;omega)
theorem FC {c:UInt8} {t:List UInt8} {n:Nat} (hc:c=47) (ht:t.headD 0=47∨t.headD 0=42) (h:dK (c :: t)=some n):2≤n:=by
  subst hc;unfold dK at h;split at h
  · split at h
    · cases h
    · have:=Option.some.inj h
      omega
  · rename_i h1
    cases t with
    | nil=>simp at ht
    | cons e t=>
      have he:e=47:=by
        rcases ht with ht | ht
        · exact ht
        · exact absurd ht h1
      subst he;have:=Option.some.inj h
      have k:∀ (x:UInt8) (t:List UInt8),x≠10→Lib.indexByte (x :: t) 10=if Lib.indexByte t 10 = -1 then -1 else Lib.indexByte t 10+1:=by
        intro x t hx
        show (if (x == 10)=true then _ else _)=_
        rw [if_neg (by simpa using hx)];simp only [beq_iff_eq]
      have hg:=Lib.indexByte_ge t 10;rw [k 47 _ (by decide),k 47 _ (by decide)] at this;simp only [List.length_cons] at this
      repeat' split at this
      all_goals omega
theorem Gv {c:UInt8} {a v v':List UInt8} {n:Nat} (hc:c=47) (ht:(a ++ v).headD 0=47∨(a ++ v).headD 0=42) (h:dK (c :: (a ++ v))=some n) (hn:n≤(c :: a).length) (hl:n<(c :: a).length∨v.headD 10≠10∨0≤Lib.indexByte ((c :: (a ++ v)).take n) 10):dK (c :: (a ++ v'))=some n:=by
  have h2:=FC hc ht h;cases a with
  | nil=>simp at hn;omega
  | cons e a=>
    unfold dK at h ⊢;rw [List.cons_append] at *;have e1:∀ z:List UInt8,(c :: e :: z).getD 1 0=e:=fun z=>rfl;have e2:∀ z:List UInt8,(c :: e :: z).drop 2=z:=fun z=>rfl;rw [e1,e2] at h ⊢;split
    · rename_i h3
      rw [if_pos h3] at h;split at h
      · cases h
      · rename_i h4
        have h5:=Option.some.inj h;have:=BE (v':=v') a (i:=(Lib.index (a ++ v) [42,47]).toNat) (p:=42) (q:=47) (v:=v) (by omega) (by simp at hn;omega);rw [this,if_neg (by omega),Int.toNat_natCast,h5]
    · rename_i h3
      rw [if_neg h3] at h;have h5:=Option.some.inj h;have hg:=Lib.indexByte_ge (c :: e :: (a ++ v)) 10;have k1:c :: e :: (a ++ v)=(c :: e :: a) ++ v:=rfl;have k2:c :: e :: (a ++ v')=(c :: e :: a) ++ v':=rfl;rw [k1] at h5 hl hg;rw [k2];split at h5
      · rename_i h6
        exfalso
        have h7:v=[]:=by
          have:((c :: e :: a) ++ v).length=(c :: e :: a).length+v.length:=List.length_append;exact List.eq_nil_of_length_eq_zero (by omega)
        subst h7;rcases hl with hl | hl | hl
        · rw [List.append_nil] at h5;omega
        · exact hl rfl
        · have:=zB (b:=10) ((c :: e :: a) ++ []) (i:=n) (.inl h6)
          omega
      · rename_i h6
        obtain ⟨i,hi⟩:∃ i:Nat,Lib.indexByte ((c :: e :: a) ++ v) 10=i:=⟨(Lib.indexByte ((c :: e :: a) ++ v) 10).toNat,by omega⟩;rw [hi] at h5;(have h5:i=n:=by simpa using h5);subst h5;rcases Nat.lt_or_ge i (c :: e :: a).length with h7 | h7
        · rw [BG (v':=v') _ hi h7,if_neg (by omega)]
          simp
        · exfalso
          (have h8:i=(c :: e :: a).length:=by omega);have h9:=FL (c :: e :: a) (by rw [hi,h8]);have oa:=zB ((c :: e :: a) ++ v) (.inr hi);rcases hl with hl | hl | hl
          · omega
          · exact hl h9
          · omega
theorem GA {u v w:List UInt8} {x:UInt8} {n:Nat} (hu:u≠[]) (hx:x=32∨x=41) (h:gl (u ++ v)=some n) (hn:n≤u.length):gl (u ++ x :: w)=some n:=by
  (have hd:dZ x=false:=by rcases hx with rfl | rfl <;> rfl);(have hl:ly x=false:=by rcases hx with rfl | rfl <;> rfl);unfold gl at h;split at h
  · cases h
  · rename_i h1
    have h2:=Option.some.inj h;have e:=uU (w:=w) hd u (v:=v) (by omega);unfold gl;rw [e,h2];rw [h2] at h1;rw [if_neg];rintro (h3 | h3 | ⟨c,h3,h4⟩)
    · refine h1 (.inl ⟨?_,h3.2⟩)
      cases u with
      | nil=>exact absurd rfl hu
      | cons y u=>exact h3.1
    · exact h1 (.inr (.inl h3))
    · rcases Nat.lt_or_ge n u.length with h5 | h5
      · refine h1 (.inr (.inr ⟨c,?_,h4⟩))
        rw [List.drop_append_of_le_length (by omega)] at h3 ⊢
        have h6:u.drop n≠[]:=by
          intro e;have:=congrArg List.length e;rw [List.length_drop] at this;simp at this;omega
        cases h7:u.drop n with
        | nil=>exact absurd h7 h6
        | cons y z=>rw [h7] at h3;exact h3
      · have h6:n=u.length:=by omega
        rw [h6,List.drop_left] at h3;(have h3:x=c:=by simpa using h3);rw [← h3,hl] at h4;cases h4
theorem rM {a:List UInt8}:(bs a).extract 0 2=bs (a.take 2):=by
  have:=ma (s:=bs a) (p:=0) (n:=2)
  simpa [bs] using this
theorem Dk {c:UInt8} {a v w:List UInt8} {x:UInt8} (hx:x=32∨x=41) (h:0<ce (bs (c :: (a ++ v)))) (hn:ce (bs (c :: (a ++ v)))≤(c :: a).length):ce (bs (c :: (a ++ x :: w)))=ce (bs (c :: (a ++ v))):=by
  have hp:∀ z:List UInt8,Lib.hasPrefix (bs z).data.toList [46,46,46]=[46,46,46].isPrefixOf z:=fun z=>rfl;have hh:∀ z:List UInt8,(bs (c :: z)).data.toList.headD 0=c:=fun z=>rfl
  have h2:∀ z:List UInt8,(∀ y ∈ z.head?,y=32∨y=41)→mx ec (bs ((c :: z).take 2))=true→z=[]∧False:=by
    intro z hz hm;cases z with
    | nil=>
      have:=eo hm;simp only [ec,List.mem_cons,List.not_mem_nil,or_false] at this
      exfalso
      rcases this with e | e | e | e | e | e | e | e | e | e | e | e | e | e | e <;> exact absurd (congrArg ByteArray.size e) (by simp [bs,ByteArray.size])
    | cons y z=>
      have hy:=hz y rfl;have:=eo hm;simp only [ec,List.mem_cons,List.not_mem_nil,or_false] at this
      exfalso
      have k:(bs ((c :: y :: z).take 2)).data = #[c,y]:=rfl;rcases this with e | e | e | e | e | e | e | e | e | e | e | e | e | e | e <;> (rw [e] at k;simp at k;rcases hy with rfl | rfl <;> simp at k)
  unfold ce at h hn ⊢;rw [hp,hp,rM,rM,hh,hh] at *
  match a,hn with
  | [],hn=>
    rw [List.nil_append,List.nil_append] at *
    have n1:¬ [46,46,46].isPrefixOf (c :: x :: w)=true:=by
      rcases hx with rfl | rfl <;> simp [List.isPrefixOf]
    have n2:¬ mx ec (bs ((c :: x :: w).take 2))=true:=fun e=>(h2 (x :: w) (by simpa using hx) e).2;rw [if_neg n1,if_neg n2];split at hn
    · simp at hn
    rename_i g1
    rw [if_neg g1] at h ⊢;split at hn
    · simp at hn
    rename_i g2
    rw [if_neg g2]
  | [y],hn=>
    have n1:¬ [46,46,46].isPrefixOf (c :: ([y] ++ x :: w))=true:=by
      rcases hx with rfl | rfl <;> simp [List.isPrefixOf]
    have e2:∀ z:List UInt8,(c :: ([y] ++ z)).take 2=[c,y]:=fun z=>rfl;rw [if_neg n1,e2];rw [e2] at h hn ⊢;split at hn
    · simp at hn
    rename_i g1
    rw [if_neg g1]
  | y :: y2 :: a,hn=>
    (have e1:∀ z:List UInt8,[46,46,46].isPrefixOf (c :: (y :: y2 :: a ++ z))=((46:UInt8) == c && ((46:UInt8) == y && (46:UInt8) == y2)):=fun z=>by simp [List.isPrefixOf]);have e2:∀ z:List UInt8,(c :: (y :: y2 :: a ++ z)).take 2=[c,y]:=fun z=>rfl;rw [e1,e1,e2,e2]
theorem Gl {u v w:List UInt8} {x:UInt8} {p n:Nat} {l l':List Tk} (hu:u≠[]) (hx:x=32∨x=41) (h:uY (u ++ v) p l = .ok (n,l')) (hn:n≤u.length) (hc:n<u.length∨v.headD 10≠10∨l'.length≠l.length):uY (u ++ x :: w) p l = .ok (n,l'):=by
  cases u with
  | nil=>exact absurd rfl hu
  | cons c a=>
    have ht:∀ z k,k≤(c :: a).length→(c :: (a ++ z)).take k=(c :: a).take k:=fun z k hk=>by
      rw [← List.cons_append,List.take_append_of_le_length hk]
    (have kR:mw x=false:=by rcases hx with rfl | rfl <;> rfl);have h:lW c (a ++ v) p l = .ok (n,l'):=h
    show lW c (a ++ x :: w) p l=_
    unfold lW at h ⊢;split at h
    · rename_i h1
      cases h;rw [if_pos h1]
    rename_i h1;rw [if_neg h1]
    split at h
    · rename_i h1
      cases h;rw [if_pos h1]
    rename_i h1;rw [if_neg h1]
    split at h
    · rename_i h1
      cases hr:dK (c :: (a ++ v)) with
      | none=>rw [hr] at h;cases h
      | some k=>
        rw [hr] at h;have h:(Except.ok (k,if 0≤Lib.indexByte ((c :: (a ++ v)).take k) 10 then bB p l else l):Except Int (Nat×List Tk)) = .ok (n,l'):=h
        injection h with h
        injection h with h3 h4
        subst h3;have h2:=FC h1.1 h1.2 hr
        have OO:=Gv (v':=x :: w) h1.1 h1.2 hr hn (hc.imp_right fun e=>e.imp_right fun e=>by
          rw [← h4] at e;split at e
          · rename_i h5;exact h5
          · exact absurd rfl e)
        have h5:c=47∧((a ++ x :: w).headD 0=47∨(a ++ x :: w).headD 0=42):=by
          refine ⟨h1.1,?_⟩;cases a with
          | nil=>simp at hn;omega
          | cons e a=>exact h1.2
        rw [if_pos h5,OO];simp only;rw [← h4,ht _ _ hn,ht _ _ hn]
    rename_i h1
    have h5:¬ (c=47∧((a ++ x :: w).headD 0=47∨(a ++ x :: w).headD 0=42)):=by
      intro e;cases a with
      | nil=>rcases hx with rfl | rfl <;> simp at e
      | cons y a=>exact h1 e
    rw [if_neg h5];by_cases hl:ly c=true
    · have e1:∀ z,dq (c :: (a ++ z))=1+((a ++ z).takeWhile mw).length:=fun z=>by rw [gE,if_pos hl]
      split at h
      · cases h
      rename_i h6
      rw [if_pos (by rw [e1];omega)] at h;have h:(Except.ok (dq (c :: (a ++ v)),l ++ [⟨if j7 (bs ((c :: (a ++ v)).take (dq (c :: (a ++ v)))))=true then 4 else 1,p,p+dq (c :: (a ++ v)),bs ((c :: (a ++ v)).take (dq (c :: (a ++ v))))⟩]):Except Int (Nat×List Tk)) = .ok (n,l'):=h
      injection h with h
      injection h with h3 h4
      subst h3
      have e2:dq (c :: (a ++ x :: w))=dq (c :: (a ++ v)):=by
        rw [e1,e1,uU kR a (v:=v) (by rw [e1] at hn;simp at hn;omega)]
      rw [e2,if_neg h6,if_pos (by rw [e1];omega),ht _ _ hn,← h4,ht _ _ hn]
    (have e1:∀ z,dq (c :: (a ++ z))=0:=fun z=>by rw [gE,if_neg hl]);rw [e1] at h ⊢;rw [if_neg (by omega),if_neg (by omega)] at h ⊢;split at h
    · rename_i h1
      rw [if_pos h1];cases hr:gl (c :: (a ++ v)) with
      | none=>rw [hr] at h;cases h
      | some k=>
        rw [hr] at h;have h:(Except.ok (k,l ++ [⟨2,p,p+k,bs ((c :: (a ++ v)).take k)⟩]):Except Int (Nat×List Tk)) = .ok (n,l'):=h
        injection h with h
        injection h with h3 h4
        subst h3;have:=GA (u:=c :: a) (w:=w) hu hx hr hn;rw [List.cons_append] at this;rw [this];simp only;rw [← h4,ht _ _ hn,ht _ _ hn]
    rename_i h1;rw [if_neg h1]
    split at h
    · rename_i h1
      rw [if_pos h1];cases hr:bP p (a ++ v) (p+1) [] with
      | error e=>rw [hr] at h;cases h
      | ok qt=>
        obtain ⟨q,tx⟩:=qt;rw [hr] at h;have hb:=dE _ _ _ hr;have h:(Except.ok (q - p,l ++ [⟨3,p,q,bs tx⟩]):Except Int (Nat×List Tk)) = .ok (n,l'):=h
        injection h with h
        injection h with h3 h4
        subst h3;rw [qi a _ _ hr (by simp at hn;omega)];simp only;rw [← h4]
    rename_i h1;rw [if_neg h1]
    split at h
    · rename_i h1
      cases h;rw [if_pos h1]
    rename_i h1;rw [if_neg h1]
    split at h
    · cases h
    · rename_i h1
      have h:(Except.ok (ce (bs (c :: (a ++ v))),l ++ [⟨5,p,p+ce (bs (c :: (a ++ v))),bs ((c :: (a ++ v)).take (ce (bs (c :: (a ++ v)))))⟩]):Except Int (Nat×List Tk)) = .ok (n,l'):=h
      injection h with h
      injection h with h3 h4
      subst h3;have e2:=Dk (w:=w) hx (by omega) hn;rw [e2,if_neg h1,← h4,ht _ _ hn,ht _ _ hn]
inductive Gw (v:List UInt8):List UInt8→Nat→List Tk→List Tk→Prop
  | nil (p:Nat) (l:List Tk):Gw v [] p l l
  | step {u:List UInt8} {p n:Nat} {l l' l1:List Tk} (hu:u≠[]) (hs:uY (u ++ v) p l = .ok (n,l')) (hn:n≤u.length) (hc:n<u.length∨v.headD 10≠10∨l'.length≠l.length) (hg:Gw v (u.drop n) (p+n) l' l1):Gw v u p l l1
theorem Gw.scn {v u:List UInt8} {p:Nat} {l l1:List Tk} (h:Gw v u p l l1):scn (u ++ v) p l=scn v (p+u.length) l1:=by
  induction h with
  | nil p l=>rfl
  | @step u p n l l' l1 hu hs hn hc hg ih=>
    rw [lX hs,List.drop_append_of_le_length hn,ih,List.length_drop];rw [show p+n+(u.length - n)=p+u.length by omega]
theorem Gw.cut {v u w:List UInt8} {x:UInt8} {p:Nat} {l l1:List Tk} (hx:x=32∨x=41) (h:Gw v u p l l1):Gw (x :: w) u p l l1:=by
  induction h with
  | nil p l=>exact .nil p l
  | @step u p n l l' l1 hu hs hn hc hg ih=>exact .step hu (Gl hu hx hs hn hc) hn (.inr (.inl (by rcases hx with rfl | rfl <;> simp))) ih
theorem Gw.shift {pre:List Tk} (ub:E6 pre) {v u:List UInt8} {p:Nat} {l l1:List Tk} (h:Gw v u p l l1):∀ (p0:Nat) (l0:List Tk),jE (pre ++ l)=jE l0→∃ l2,Gw v u p0 l0 l2∧jE (pre ++ l1)=jE l2:=by
  induction h with
  | nil p l=>exact fun p0 l0 hk=>⟨l0,.nil _ _,hk⟩
  | @step u p n l l' l1 hu hs hn hc hg ih=>
    intro p0 l0 hk;obtain ⟨Qn,h1,h2⟩:=xS ub (p0:=p0) hk hs;obtain ⟨l2,h3,h4⟩:=ih (p0+n) Qn h2;refine ⟨l2,.step hu h1 hn (hc.imp_right fun e=>e.imp_right fun e=>?_) h3,h4⟩;have e1:=uC hk;have e2:=uC h2;rw [List.length_append] at e1 e2;omega
theorem Gw.snoc {v u u2:List UInt8} (h2:u2≠[]) {p:Nat} {l l1 l2:List Tk} (h:Gw (u2 ++ v) u p l l1) (hs:uY (u2 ++ v) (p+u.length) l1 = .ok (u2.length,l2)) (hl:l2.length≠l1.length):Gw v (u ++ u2) p l l2:=by
  have h3:0<u2.length:=List.length_pos_iff.2 h2
  induction h with
  | nil p l=>
    refine .step h2 hs (Nat.le_refl _) (.inr (.inr hl)) ?_;rw [List.nil_append,List.drop_length];exact .nil _ _
  | @step u p n l l' l1 hu DY hn hc hg ih=>
    refine .step (by simp [hu]) (by rw [List.append_assoc];exact DY) (by rw [List.length_append];omega) (.inl (by rw [List.length_append];omega)) ?_;rw [List.drop_append_of_le_length hn];refine ih ?_ hl;rw [List.length_drop,show p+n+(u.length - n)=p+u.length by omega];exact hs
theorem pc (p:Int) (l:List Tk):bB p l=l∨∃ z:Tk,bB p l=l ++ [z]∧z.k=6:=by
  unfold bB;split
  · exact .inl rfl
  · split
    · exact .inr ⟨_,rfl,rfl⟩
    · exact .inl rfl
theorem Fy {r:List UInt8} {p n:Nat} {l l':List Tk} (h:uY r p l = .ok (n,l')):l'=l∨∃ z:Tk,l'=l ++ [z]∧(z.k=6∨(z.fr=(p:Int)∧z.to=(p:Int)+n)):=by
  obtain ⟨-,-,h | h | ⟨z,h,h1,h2,-⟩⟩:=oq h
  · exact .inl h
  · rcases pc p l with e | ⟨z,e,e2⟩
    · exact .inl (h.trans e)
    · exact .inr ⟨z,h.trans e,.inl e2⟩
  · exact .inr ⟨z,h,.inr ⟨h1,h2⟩⟩
theorem yZ:∀ (k:Nat) (r:List UInt8) (p:Nat) (l ts:List Tk),r.length≤k→scn r p l = .ok ts→∃ m,ts=l ++ m
  | _,[],p,l,ts,_,h=>by
    rw [q7] at h;cases h;rcases pc p l with e | ⟨z,e,-⟩
    · rw [e];exact ⟨_,rfl⟩
    · rw [e,List.append_assoc];exact ⟨_,rfl⟩
  | 0,c :: t,_,_,_,h,_=>by simp at h
  | k+1,c :: t,p,l,ts,hl,h=>by
    obtain ⟨n,l',hs⟩:=Dn (by simp) h;have hb:=oq hs;rw [lX hs] at h;obtain ⟨m,hm⟩:=yZ k _ _ _ _ (by rw [List.length_drop];simp at hl ⊢;omega) h;rcases Fy hs with e | ⟨z,e,-⟩
    · exact ⟨m,by rw [hm,e]⟩
    · exact ⟨z :: m,by rw [hm,e,List.append_assoc];rfl⟩
theorem IZ:∀ (N:Nat) (r:List UInt8) (p:Nat) (l ts:List Tk),r.length≤N→scn r p l = .ok ts→∀ (k:Nat) (x:Tk),ts[k]? = some x→l.length≤k→x.k≠6→x.k≠7→
    ∃ u v l1 n,r=u ++ v∧v.headD 10≠10∧Gw v u p l l1∧l1.length=k∧x.fr=((p+u.length:Nat):Int)∧uY v (p+u.length) l1 = .ok (n,l1 ++ [x])
  | _,[],p,l,ts,_,h,k,x,hx,hk,h6,h7=>by
    rw [q7] at h;cases h
    exfalso
    rcases pc p l with e | ⟨z,e,hz⟩
    · rw [e,List.getElem?_append_right hk] at hx
      rcases Nat.eq_zero_or_pos (k - l.length) with e2 | e2
      · rw [e2] at hx
        have hx:=Option.some.inj hx;rw [← hx] at h7;exact h7 rfl
      · rw [List.getElem?_eq_none (by simp;omega)] at hx
        cases hx
    · rw [e,List.append_assoc,List.getElem?_append_right hk] at hx
      match k - l.length,hx with
      | 0,hx=>
        have hx:=Option.some.inj hx;rw [← hx] at h6;exact h6 hz
      | 1,hx=>
        have hx:=Option.some.inj hx;rw [← hx] at h7;exact h7 rfl
      | j+2,hx=>simp at hx
  | 0,c :: t,_,_,_,h,_,_,_,_,_,_,_=>by simp at h
  | N+1,c :: t,p,l,ts,hl,h,k,x,hx,hk,h6,h7=>by
    obtain ⟨n,l',hs⟩:=Dn (by simp) h;have hb:=oq hs;have h':=h;rw [lX hs] at h';rcases Nat.lt_or_ge k l'.length with h1 | h1
    · -- this step brings it
      obtain ⟨m,hm⟩:=yZ _ _ _ _ _ (Nat.le_refl _) h';rcases Fy hs with e | ⟨z,e,hz⟩
      · rw [e] at h1;omega
      · have fT:k=l.length:=by rw [e] at h1;simp at h1;omega
        have hxz:x=z:=by
          rw [hm,e,List.append_assoc,List.getElem?_append_right hk,fT,Nat.sub_self] at hx;exact (Option.some.inj hx).symm
        subst hxz;rcases hz with hz | hz
        · exact absurd hz h6
        · refine ⟨[],c :: t,l,n,rfl,?_,.nil _ _,fT.symm,hz.1,by rw [← e];exact hs⟩
          intro QH;have QH:c=10:=QH;subst QH;have hs:lW 10 t p l = .ok (n,l'):=hs;unfold lW at hs;rw [if_pos rfl] at hs;have hs:(Except.ok (1,bB p l):Except Int (Nat×List Tk)) = .ok (n,l'):=hs
          injection hs with hs
          injection hs with h3 h4
          rcases pc p l with e5 | ⟨y,e5,e6⟩
          · have:=congrArg List.length (h4.symm.trans e5)
            rw [e] at this;simp at this
          · rw [← h4,e5] at e
            have e:=List.append_cancel_left e
            injection e with e _
            exact h6 (by rw [← e];exact e6)
    · obtain ⟨u,v,l1,n1,g1,g2,g3,g4,g5,g6⟩:=IZ N _ _ _ _ (by rw [List.length_drop];simp at hl ⊢;omega) h' k x hx h1 h6 h7
      (have e0:c :: t=(c :: t).take n ++ u ++ v:=by rw [List.append_assoc,← g1,List.take_append_drop]);(have e1:((c :: t).take n).length=n:=by rw [List.length_take];omega);(have e2:((c :: t).take n ++ u).length=n+u.length:=by rw [List.length_append,e1]);refine ⟨(c :: t).take n ++ u,v,l1,n1,e0,g2,?_,g4,by rw [g5,e2];congr 1;omega,by rw [e2,← Nat.add_assoc];exact g6⟩;refine .step (fun e=>?_) (by rw [← e0];exact hs) (by rw [e2];omega) (.inr (.inl g2)) ?_
      · have:=congrArg List.length e
        rw [e2] at this;simp at this;omega
      · have e3:((c :: t).take n ++ u).drop n=u:=by
          have:=List.drop_left' (l₁:=(c :: t).take n) (l₂:=u) e1;exact this
        rw [e3];exact g3
theorem Jb:E6 []:=fun p=>rfl
theorem vf {r:List UInt8} {ts:List Tk} {k:Nat} {x:Tk} (h:scn r 0 [] = .ok ts) (hx:ts[k]? = some x) (h6:x.k≠6) (h7:x.k≠7) :
    ∃ u v aP,r=u ++ v∧x.fr=(u.length:Int)∧v≠[]∧scn (u ++ ([32,47,42,32,114,32,42,47,32] ++ v)) 0 [] = .ok aP∧jE ts=jE aP∧(∃ n l1,uY v u.length l1 = .ok (n,l1 ++ [x])):=by
  obtain ⟨u,v,l1,n,g1,g2,g3,g4,g5,g6⟩:=IZ _ _ _ _ _ (Nat.le_refl _) h k x hx (Nat.zero_le _) h6 h7;rw [Nat.zero_add] at g5 g6;have h1:=h;rw [g1,g3.scn,Nat.zero_add] at h1;obtain ⟨aP,h2,h3⟩:=xT Jb _ v u.length (u.length+9) l1 l1 ts (Nat.le_refl _) rfl h1;refine ⟨u,v,aP,g1,g5,?_,?_,h3,n,l1,g6⟩
  · intro e
    rw [e] at g2;exact g2 rfl
  · have g7:=(g3.cut (x:=32) (w:=[47,42,32,114,32,42,47,32] ++ v) (.inl rfl)).scn
    have e1:uY (32 :: ([47,42,32,114,32,42,47,32] ++ v)) u.length l1 = .ok (1,l1):=rfl
    have e2:uY ([47,42,32,114,32,42,47] ++ 32 :: v) (u.length+1) l1 = .ok (7,l1):=by
      show lW 47 ([42,32,114,32,42,47] ++ 32 :: v) (u.length+1) l1=_
      unfold lW
      have hr:dK (47 :: ([42,32,114,32,42,47] ++ 32 :: v))=some 7:=by
        have Ej:(47 :: ([42,32,114,32,42,47] ++ 32 :: v)).getD 1 0=42:=rfl;unfold dK;rw [if_pos Ej];(have:Lib.index ((47 :: ([42,32,114,32,42,47] ++ 32 :: v)).drop 2) [42,47]=3:=by rfl);rw [this];rfl
      rw [if_neg (by decide),if_neg (by decide),if_pos ⟨rfl,.inr rfl⟩,hr];rfl
    have e3:uY (32 :: v) (u.length+8) l1 = .ok (1,l1):=rfl;refine (show scn (u ++ 32 :: ([47,42,32,114,32,42,47,32] ++ v)) 0 []=_ from ?_);rw [g7,Nat.zero_add,lX e1]
    show scn ([47,42,32,114,32,42,47] ++ 32 :: v) (u.length+1) l1=_
    rw [lX e2]
    show scn (32 :: v) (u.length+8) l1=_
    rw [lX e3];exact h2
theorem I3 (z:List UInt8) (p:Nat) (l:List Tk):uY (40 :: z) p l = .ok (1,l ++ [⟨5,p,(p:Int)+(1:Nat),⟨#[40]⟩⟩]):=by
  have e:ce (bs (40 :: z))=1:=by
    have hp:Lib.hasPrefix (bs (40 :: z)).data.toList [46,46,46]=false:=rfl
    have h2:mx ec (bs ((40 :: z).take 2))=false:=by
      cases hm:mx ec (bs ((40 :: z).take 2)) with
      | false=>rfl
      | true=>
        exfalso
        have:=eo hm;simp only [ec,List.mem_cons,List.not_mem_nil,or_false] at this;(have k:(bs ((40 :: z).take 2)).data[0]? = some 40:=by cases z <;> rfl);rcases this with e | e | e | e | e | e | e | e | e | e | e | e | e | e | e <;> (rw [e] at k;exact absurd k (by decide))
    unfold ce;rw [hp,if_neg (by decide),rM,h2,if_neg (by decide)];rfl
  show lW 40 z p l=_
  unfold lW;(have en:dq (40 :: z)=0:=by rw [gE,if_neg (by decide)]);rw [if_neg (by decide),if_neg (by decide),if_neg (fun e=>absurd e.1 (by decide)),en,if_neg (by omega),if_neg (by omega),if_neg (by decide),if_neg (by decide),if_neg (by decide),e,if_neg (by omega)];rfl
theorem tL {r:List UInt8} {ts:List Tk} {i:Nat} {x:Tk} (h:scn r 0 [] = .ok ts) (hx:ts[i]? = some x) (h6:x.k≠6) (h7:x.k≠7) :
    ∃ u v aP,r=u ++ v∧x.to=(u.length:Int)∧scn (40 :: (u ++ [41])) 0 [] = .ok aP∧jE aP=(5,⟨#[40]⟩) :: jE (ts.take (i+1)) ++ [(5,⟨#[41]⟩),(6,⟨#[10]⟩),(7,⟨#[]⟩)]∧(∃ u0 w n l1,u=u0 ++ w.take n∧uY w u0.length l1 = .ok (n,l1 ++ [x])):=by
  obtain ⟨u,v,l1,n,g1,g2,g3,g4,g5,g6⟩:=IZ _ _ _ _ _ (Nat.le_refl _) h i x hx (Nat.zero_le _) h6 h7;rw [Nat.zero_add] at g5 g6;have hb:=oq g6;(have e1:(v.take n).length=n:=by rw [List.length_take];omega);have ev:v=v.take n ++ v.drop n:=(List.take_append_drop n v).symm
  have g7:Gw (v.drop n) (u ++ v.take n) 0 [] (l1 ++ [x]):=by
    refine Gw.snoc (fun e=>?_) (by rw [← ev];exact g3) (by rw [← ev,e1,Nat.zero_add];exact g6) (by simp);rw [e] at e1;simp at e1;omega
  have zD:x.to=((u ++ v.take n).length:Int):=by
    rw [List.length_append,e1];rcases hb.2.2 with e | e | ⟨z,e,e2,e3,-⟩
    · have:=congrArg List.length e
      simp at this
    · rcases pc u.length l1 with e2 | ⟨z,e2,e3⟩
      · have:=congrArg List.length (e.trans e2)
        simp at this
      · have:=List.append_cancel_left (e.trans e2)
        injection this with this _
        exact absurd (by rw [this];exact e3) h6
    · have:=List.append_cancel_left e
      injection this with this _
      rw [this,e3];omega
  have ub:E6 [(⟨5,((0:Nat):Int),((0:Nat):Int)+(1:Nat),⟨#[40]⟩⟩:Tk)]:=fun p=>rfl;obtain ⟨l2,g8,g9⟩:=(g7.cut (x:=41) (w:=[]) (.inr rfl)).shift ub 1 _ (rfl:jE ([(⟨5,((0:Nat):Int),((0:Nat):Int)+(1:Nat),⟨#[40]⟩⟩:Tk)] ++ [])=jE [⟨5,((0:Nat):Int),((0:Nat):Int)+(1:Nat),⟨#[40]⟩⟩])
  have e4:uY [41] (1+(u ++ v.take n).length) l2 = .ok (1,l2 ++ [⟨5,((1+(u ++ v.take n).length:Nat):Int),((1+(u ++ v.take n).length:Nat):Int)+(1:Nat),⟨#[41]⟩⟩]):=by
    show lW 41 [] _ _=_
    unfold lW;(have e:ce (bs [41])=1:=by decide +kernel);(have en:dq [41]=0:=by rw [gE,if_neg (by decide)]);rw [if_neg (by decide),if_neg (by decide),if_neg (fun e=>absurd e.1 (by decide)),en,if_neg (by omega),if_neg (by omega),if_neg (by decide),if_neg (by decide),if_neg (by decide),e,if_neg (by omega)];rfl
  have e5:scn (40 :: ((u ++ v.take n) ++ [41])) 0 []=scn [] (1+(u ++ v.take n).length+1) (l2 ++ [⟨5,((1+(u ++ v.take n).length:Nat):Int),((1+(u ++ v.take n).length:Nat):Int)+(1:Nat),⟨#[41]⟩⟩]):=by
    rw [lX (I3 _ 0 [])]
    show scn ((u ++ v.take n) ++ [41]) 1 [⟨5,((0:Nat):Int),((0:Nat):Int)+(1:Nat),⟨#[40]⟩⟩]=_
    exact (g8.scn.trans (lX e4))
  rw [q7] at e5
  have e6:∀ (q y z:Int),bB q (l2 ++ [⟨5,y,z,⟨#[41]⟩⟩])=l2 ++ [⟨5,y,z,⟨#[41]⟩⟩] ++ [⟨6,q,q,⟨#[10]⟩⟩]:=by
    intro q y z;(have e:(l2 ++ [(⟨5,y,z,⟨#[41]⟩⟩:Tk)]).getLast? = some ⟨5,y,z,⟨#[41]⟩⟩:=by simp);unfold bB;rw [e];have e7:mF ⟨5,y,z,⟨#[41]⟩⟩=true:=rfl;simp only [e7,if_pos]
  rw [e6] at e5
  have e8:ts.take (i+1)=l1 ++ [x]:=by
    have h1:=h;rw [g1,ev,← List.append_assoc,g7.scn] at h1;obtain ⟨m,hm⟩:=yZ _ _ _ _ _ (Nat.le_refl _) h1;rw [hm];(have:(l1 ++ [x]).length=i+1:=by simp [g4]);rw [← this,List.take_left]
  refine ⟨u ++ v.take n,v.drop n,_,by rw [List.append_assoc,← ev];exact g1,zD,e5,?_,u,v,n,l1,rfl,g6⟩;rw [e8];unfold jE at g9 ⊢;rw [List.map_append,List.map_append,List.map_append,← g9];simp [kt]
end Go.Proofs.YtfmgdmeopakdaaaGreatDoor
namespace Go.Proofs.YtfmgdmeopakdaaaGreatDoor
open Go Go.RowKit Go.Lib Tryz
theorem mH {n b0 b1 b2 b3 r w:Nat} (hn:1≤n) (h:decodeN n b0 b1 b2 b3=(r,w)) (hv:(r,w)≠(65533,1)):1≤w∧w≤n∧w≤4∧(2≤w→128≤b0∧128≤b1)∧(3≤w→128≤b2)∧(4≤w→128≤b3):=by
  unfold decodeN at h
  repeat' split at h
  all_goals first
    | (injection h with h1 h2;subst h1 h2;omega)
    | exact absurd h.symm hv
theorem EQ {n b0 b1 b2 b3 n' b1' b2' b3' r w:Nat} (h:decodeN n b0 b1 b2 b3=(r,w)) (hv:(r,w)≠(65533,1)) (h1:2≤w→b1'=b1) (h2:3≤w→b2'=b2) (h3:4≤w→b3'=b3) (hn:w≤n'):decodeN n' b0 b1' b2' b3'=(r,w):=by
  unfold decodeN at h;split at h
  · rename_i g
    injection h with e1 e2
    subst e1 e2;unfold decodeN;rw [if_pos g]
  rename_i g0
  split at h
  · rename_i g
    split at h
    · rename_i g'
      injection h with e1 e2
      subst e1 e2;rw [h1 (by omega)];unfold decodeN;rw [if_neg g0,if_pos (by omega),if_pos g']
    · exact absurd h.symm hv
  split at h
  · rename_i g1 g
    split at h
    · rename_i g'
      injection h with e1 e2
      subst e1 e2;rw [h1 (by omega),h2 (by omega)];unfold decodeN;rw [if_neg g0,if_neg (by omega),if_pos (by omega),if_pos g']
    · exact absurd h.symm hv
  split at h
  · rename_i g1 g2 g
    split at h
    · rename_i g'
      injection h with e1 e2
      subst e1 e2;rw [h1 (by omega),h2 (by omega),h3 (by omega)];unfold decodeN;rw [if_neg g0,if_neg (by omega),if_neg (by omega),if_pos (by omega),if_pos g']
    · exact absurd h.symm hv
  · exact absurd h.symm hv
def gN (r:List UInt8) (i:Nat):Nat:=(r.getD i 0).toNat
def fw (r:List UInt8):Nat×Nat:=decodeN r.length (gN r 0) (gN r 1) (gN r 2) (gN r 3)
def vL:Nat→List UInt8→Bool
  | 0,_=>true
  | f+1,r=>if r.length=0 then true else if (fw r).1=0 then false else if fw r=(65533,1) then false else vL f (r.drop (fw r).2)
theorem rG (s:ByteArray) (p i:Nat):(s.get! (p+i)).toNat=gN (s.data.toList.drop p) i:=by
  unfold gN
  show (s.data[p+i]!).toNat=_
  rw [List.getD_eq_getElem?_getD,List.getElem?_drop,Array.getElem?_toList];cases h:s.data[p+i]? with
  | none=>rw [getElem!_def,h];rfl
  | some x=>rw [getElem!_def,h];rfl
theorem J0 (s:ByteArray) (p:Nat):Utf8.decode s p=fw (s.data.toList.drop p):=by
  rw [decode_at];unfold fw;rw [show p=p+0 from rfl,rG,Nat.add_zero,rG,rG,rG,List.length_drop];rfl
theorem yG (s:ByteArray):∀ f p,gp s f p=vL f (s.data.toList.drop p)
  | 0,_=>rfl
  | f+1,p=>by
    unfold gp vL;rw [J0,List.length_drop,List.drop_drop];have e:s.data.toList.length=s.size:=rfl;rw [e];by_cases h:p<s.size
    · rw [if_pos h,if_neg (by omega:¬ s.size - p=0),yG s f]
    · rw [if_neg h,if_pos (by omega)]
theorem yH:∀ (f f':Nat) (r:List UInt8),r.length≤f→r.length≤f'→vL f r=vL f' r
  | 0,0,_,_,_=>rfl
  | 0,f'+1,r,h,_=>by
    unfold vL;rw [if_pos (by omega)]
  | f+1,0,r,_,h=>by
    unfold vL;rw [if_pos (by omega)]
  | f+1,f'+1,r,h,h'=>by
    conv=>lhs;unfold vL
    conv=>rhs;unfold vL
    split
    · rfl
    rename_i h0
    split
    · rfl
    split
    · rfl
    rename_i h1 h2
    have:=mH (n:=r.length) (by omega) (show decodeN r.length _ _ _ _=((fw r).1,(fw r).2) from rfl) h2;exact yH f f' _ (by rw [List.length_drop];omega) (by rw [List.length_drop];omega)
def VU (r:List UInt8):Prop:=vL r.length r=true
theorem VU.nil:VU []:=rfl
theorem VU.inv {r:List UInt8} (h:VU r) (h0:r≠[]):(fw r).1≠0∧fw r≠(65533,1)∧VU (r.drop (fw r).2):=by
  have h3:0<r.length:=List.length_pos_iff.2 h0;obtain ⟨n,hn⟩:∃ n,r.length=n+1:=⟨r.length - 1,by omega⟩;unfold VU at h;rw [hn] at h;unfold vL at h;rw [if_neg (by omega)] at h;split at h
  · cases h
  split at h
  · cases h
  rename_i h1 h2
  have:=mH (n:=r.length) (by omega) (show decodeN r.length _ _ _ _=((fw r).1,(fw r).2) from rfl) h2;refine ⟨h1,h2,?_⟩;unfold VU;rw [← h];exact yH _ _ _ (Nat.le_refl _) (by rw [List.length_drop];omega)
theorem VU.mk {r:List UInt8} (h1:(fw r).1≠0) (h2:fw r≠(65533,1)) (h:VU (r.drop (fw r).2)):VU r:=by
  cases hr:r.length with
  | zero=>unfold VU;rw [hr];rfl
  | succ n=>
    unfold VU;rw [hr];unfold vL;rw [if_neg (by omega),if_neg h1,if_neg h2,← h];have:=mH (n:=r.length) (by omega) (show decodeN r.length _ _ _ _=((fw r).1,(fw r).2) from rfl) h2;exact yH _ _ _ (by rw [List.length_drop];omega) (Nat.le_refl _)
theorem nc {u v:List UInt8} {i:Nat} (h:i<u.length):gN (u ++ v) i=gN u i:=by
  unfold gN;rw [List.getD_eq_getElem?_getD,List.getD_eq_getElem?_getD,List.getElem?_append_left h]
theorem vW {u v v':List UInt8} (h2:fw (u ++ v)≠(65533,1)) (hw:(fw (u ++ v)).2≤u.length) (hu:u≠[]):fw (u ++ v')=fw (u ++ v):=by
  have h3:0<u.length:=List.length_pos_iff.2 hu;have e:gN (u ++ v') 0=gN (u ++ v) 0:=by rw [nc h3,nc h3]
  have:=EQ (n:=(u ++ v).length) (n':=(u ++ v').length) (b1':=gN (u ++ v') 1) (b2':=gN (u ++ v') 2) (b3':=gN (u ++ v') 3) (show decodeN (u ++ v).length _ _ _ _=((fw (u ++ v)).1,(fw (u ++ v)).2) from rfl) h2
    (fun h=>by rw [nc (by omega),nc (by omega)]) (fun h=>by rw [nc (by omega),nc (by omega)]) (fun h=>by rw [nc (by omega),nc (by omega)]) (by rw [List.length_append];omega)
  rw [← e] at this;exact this
theorem VU.app:∀ (k:Nat) (u v:List UInt8),u.length≤k→VU u→VU v→VU (u ++ v)
  | _,[],v,_,_,hv=>hv
  | 0,c :: t,v,h,_,_=>by simp at h
  | k+1,c :: t,v,hk,hu,hv=>by
    obtain ⟨h1,h2,h3⟩:=hu.inv (by simp);have h4:=mH (n:=(c :: t).length) (by simp) (show decodeN (c :: t).length _ _ _ _=((fw (c :: t)).1,(fw (c :: t)).2) from rfl) h2
    have e:fw ((c :: t) ++ v)=fw (c :: t):=by
      have:=vW (u:=c :: t) (v:=[]) (v':=v) (by rw [List.append_nil];exact h2) (by rw [List.append_nil];exact h4.2.1) (by simp);rw [this,List.append_nil]
    refine VU.mk (by rw [e];exact h1) (by rw [e];exact h2) ?_;rw [e,List.drop_append_of_le_length h4.2.1];exact VU.app k _ _ (by rw [List.length_drop];simp at hk ⊢;omega) h3 hv
theorem VU.cut:∀ (k:Nat) (u v:List UInt8),u.length≤k→VU (u ++ v)→((∃ c t,v=c :: t∧c.toNat<128)∨(∃ a b,u=a ++ [b]∧b.toNat<128)∨v=[])→VU u∧VU v
  | _,[],v,_,h,_=>⟨VU.nil,h⟩
  | 0,c :: t,v,hk,_,_=>by simp at hk
  | k+1,c :: t,v,hk,h,hb=>by
    obtain ⟨h1,h2,h3⟩:=h.inv (by simp);have h4:=mH (n:=((c :: t) ++ v).length) (by simp) (show decodeN ((c :: t) ++ v).length _ _ _ _=((fw ((c :: t) ++ v)).1,(fw ((c :: t) ++ v)).2) from rfl) h2
    have hw:(fw ((c :: t) ++ v)).2≤(c :: t).length:=by
      rcases Nat.lt_or_ge (c :: t).length (fw ((c :: t) ++ v)).2 with h5 | h5
      · exfalso
        have key:∀ i,i<(fw ((c :: t) ++ v)).2→2≤(fw ((c :: t) ++ v)).2→128≤gN ((c :: t) ++ v) i:=by
          intro i hi hw
          match i,hi with
          | 0,_=>exact (h4.2.2.2.1 hw).1
          | 1,_=>exact (h4.2.2.2.1 hw).2
          | 2,hi=>exact h4.2.2.2.2.1 (by omega)
          | 3,hi=>exact h4.2.2.2.2.2 (by omega)
          | j+4,hi=>omega
        (have h6:1≤(c :: t).length:=by simp);rcases hb with ⟨d,z,rfl,hd⟩ | ⟨a,b,e,hd⟩ | rfl
        · have:=key (c :: t).length (by omega) (by omega)
          have e:gN ((c :: t) ++ d :: z) (c :: t).length=d.toNat:=by
            unfold gN;rw [List.getD_eq_getElem?_getD,List.getElem?_append_right (Nat.le_refl _),Nat.sub_self];rfl
          omega
        · have:=key a.length (by rw [e] at h5;simp at h5;rw [e];simp;omega) (by omega)
          have e2:gN ((c :: t) ++ v) a.length=b.toNat:=by
            rw [e,nc (by simp)];unfold gN;rw [List.getD_eq_getElem?_getD,List.getElem?_append_right (Nat.le_refl _),Nat.sub_self];rfl
          omega
        · rw [List.append_nil] at h4 h5
          omega
      · exact h5
    have e:fw (c :: t)=fw ((c :: t) ++ v):=by
      have:=vW (u:=c :: t) (v:=v) (v':=[]) h2 hw (by simp)
      rwa [List.append_nil] at this
    rw [List.drop_append_of_le_length hw] at h3;have fT:((c :: t).drop (fw ((c :: t) ++ v)).2).length≤k:=by rw [List.length_drop];simp only [List.length_cons] at hk ⊢;omega
    have cK:(∃ d z,v=d :: z∧d.toNat<128)∨(∃ a b,(c :: t).drop (fw ((c :: t) ++ v)).2=a ++ [b]∧b.toNat<128)∨v=[]∨(c :: t).drop (fw ((c :: t) ++ v)).2=[]:=by
      rcases hb with h | ⟨a,b,e,hd⟩ | h
      · exact .inl h
      · by_cases h6:(c :: t).drop (fw ((c :: t) ++ v)).2=[]
        · exact .inr (.inr (.inr h6))
        · refine .inr (.inl ⟨a.drop (fw ((c :: t) ++ v)).2,b,?_,hd⟩)
          have h7:=List.length_pos_iff.2 h6;rw [List.length_drop] at h7;(have h8:(c :: t).length=a.length+1:=by rw [e];simp);rw [← List.drop_append_of_le_length (by omega),← e]
      · exact .inr (.inr (.inl h))
    have:=(show VU ((c :: t).drop (fw ((c :: t) ++ v)).2)∧VU v from by
      rcases cK with h | h | h | h
      · exact VU.cut k _ _ fT h3 (.inl h)
      · exact VU.cut k _ _ fT h3 (.inr (.inl h))
      · exact VU.cut k _ _ fT h3 (.inr (.inr h))
      · rw [h] at h3 ⊢;exact ⟨VU.nil,h3⟩)
    exact ⟨VU.mk (by rw [e];exact h1) (by rw [e];exact h2) (by rw [e];exact this.1),this.2⟩
end Go.Proofs.YtfmgdmeopakdaaaGreatDoor
namespace Go.Proofs.YtfmgdmeopakdaaaGreatDoor
open Go Go.RowKit Go.Lib Tryz
theorem zk {c:UInt8} (h:mw c=true):c.toNat<128:=by
  unfold mw ly dZ d8 gd at h;simp only [Bool.or_eq_true,decide_eq_true_eq] at h;omega
theorem Fw {p:UInt8→Bool} (t:List UInt8):t.take (t.takeWhile p).length=t.takeWhile p:=(List.prefix_iff_eq_take.1 (List.takeWhile_prefix p)).symm
theorem Ji {r:List UInt8} (h0:r≠[]) (h:∀ b ∈ r,b.toNat<128):∃ a b,r=a ++ [b]∧b.toNat<128:=by
  rcases List.eq_nil_or_concat r with e | ⟨m,x,e⟩
  · exact absurd e h0
  · rw [List.concat_eq_append] at e
    exact ⟨m,x,e,h x (by rw [e];simp)⟩
theorem sq {fr:Nat}:∀ (r:List UInt8) (p:Nat) (acc:List UInt8) {q:Nat} {tx:List UInt8},bP fr r p acc = .ok (q,tx)→∃ a,r.take (q - p)=a ++ [34]
  | [],p,acc,q,tx,h=>by simp [bP] at h
  | c :: t,p,acc,q,tx,h=>by
    have hb:=dE _ _ _ h;unfold bP at h;split at h
    · cases h
    split at h
    · rename_i h2
      have h:(Except.ok (p+1,acc):Except Int (Nat×List UInt8)) = .ok (q,tx):=h
      injection h with h
      injection h with h3 h4
      rw [← h3,show p+1 - p=1 by omega,h2];exact ⟨[],rfl⟩
    split at h
    · cases t with
      | nil=>cases h
      | cons e t'=>
        simp only at h;cases he:oG e with
        | none=>rw [he] at h;cases h
        | some x=>
          rw [he] at h;have cK:=(dE _ _ _ h).1;obtain ⟨a,ha⟩:=sq t' _ _ h;refine ⟨c :: e :: a,?_⟩;rw [show q - p=q - (p+2)+1+1 by omega,List.take_succ_cons,List.take_succ_cons,ha];rfl
    · have cK:=(dE _ _ _ h).1
      obtain ⟨a,ha⟩:=sq t _ _ h;refine ⟨c :: a,?_⟩;rw [show q - p=q - (p+1)+1 by omega,List.take_succ_cons,ha];rfl
theorem LJ {c:UInt8} (h:0≤Lib.indexByte kY c):c.toNat<128:=by
  have:∀ (l:List UInt8),0≤Lib.indexByte l c→c ∈ l:=by
    intro l
    induction l with
    | nil=>intro h;simp [Lib.indexByte] at h
    | cons b l ih=>
      intro h;unfold Lib.indexByte at h;split at h
      · rename_i h1;rw [beq_iff_eq.1 h1];exact List.mem_cons_self
      split at h
      · simp at h
      · rename_i h2
        (have h2:Lib.indexByte l c≠-1:=by simpa using h2);have:=Lib.indexByte_ge l c;exact List.mem_cons_of_mem _ (ih (by omega))
  have hm:=this _ h;(have Eh:∀ b ∈ kY,b.toNat<128:=by decide);exact Eh c hm
theorem Ly {c:UInt8} {t:List UInt8} (h:ce (bs (c :: t))≠0):∀ b ∈ (c :: t).take (ce (bs (c :: t))),b.toNat<128:=by
  unfold ce at h ⊢;rw [rM] at *;by_cases h1:Lib.hasPrefix (bs (c :: t)).data.toList [46,46,46]=true
  · rw [if_pos h1]
    have h1:[46,46,46].isPrefixOf (c :: t)=true:=h1;have h2:=List.isPrefixOf_iff_prefix.1 h1;have h3:=List.prefix_iff_eq_take.1 h2;have h3:[46,46,46]=(c :: t).take 3:=h3;rw [← h3]
    decide
  rw [if_neg h1] at h ⊢;by_cases h2:mx ec (bs ((c :: t).take 2))=true
  · rw [if_pos h2]
    have:=eo h2;simp only [ec,List.mem_cons,List.not_mem_nil,or_false] at this;(have k:(bs ((c :: t).take 2)).data.toList=(c :: t).take 2:=by simp [bs]);rw [← k];rcases this with e | e | e | e | e | e | e | e | e | e | e | e | e | e | e <;> (rw [e];decide)
  rw [if_neg h2] at h ⊢;by_cases h3:0≤Lib.indexByte kY ((bs (c :: t)).data.toList.headD 0)
  · rw [if_pos h3]
    have h3:0≤Lib.indexByte kY c:=h3;intro b hb;have hb:b ∈ [c]:=hb;rw [List.mem_singleton.1 hb];exact LJ h3
  · rw [if_neg h3] at h
    exact absurd rfl h
theorem Ix {v:List UInt8} {p n:Nat} {l:List Tk} {x:Tk} (h:uY v p l = .ok (n,l ++ [x])) (h6:x.k≠6):(∃ c t,v=c :: t∧c.toNat<128)∧∃ a b,v.take n=a ++ [b]∧b.toNat<128:=by
  have hb:=oq h
  have key:(∀ b ∈ v.take n,b.toNat<128)→(∃ c t,v=c :: t∧c.toNat<128)∧∃ a b,v.take n=a ++ [b]∧b.toNat<128:=by
    intro ha;cases v with
    | nil=>cases h
    | cons c t=>
      obtain ⟨m,rfl⟩:∃ m,n=m+1:=⟨n - 1,by omega⟩;exact ⟨⟨c,t,rfl,ha c (by rw [List.take_succ_cons];exact List.mem_cons_self)⟩,Ji (by rw [List.take_succ_cons];simp) ha⟩
  have Yr:∀ q,bB q l=l ++ [x]→False:=by
    intro q e;rcases pc q l with e2 | ⟨z,e2,e3⟩
    · have:=congrArg List.length (e2.symm.trans e)
      simp at this
    · have:=List.append_cancel_left (e2.symm.trans e)
      injection this with this _
      exact h6 (by rw [← this];exact e3)
  have nos:l=l ++ [x]→False:=by
    intro e;have:=congrArg List.length e;simp at this
  cases v with
  | nil=>cases h
  | cons c t=>
    have h:lW c t p l = .ok (n,l ++ [x]):=h;unfold lW at h;split at h
    · injection h with h
      injection h with h1 h2
      exact absurd h2 (Yr _)
    split at h
    · injection h with h
      injection h with h1 h2
      exact absurd h2 nos
    split at h
    · cases hr:dK (c :: t) with
      | none=>rw [hr] at h;cases h
      | some k=>
        rw [hr] at h;have h:(Except.ok (k,if 0≤Lib.indexByte ((c :: t).take k) 10 then bB p l else l):Except Int (Nat×List Tk)) = .ok (n,l ++ [x]):=h
        injection h with h
        injection h with h1 h2
        split at h2
        · exact absurd h2 (Yr _)
        · exact absurd h2 nos
    split at h
    · cases h
    split at h
    · rename_i hl
      injection h with h
      injection h with h1 h2
      subst h1;refine key fun b hb=>?_;rw [gE] at hl hb;by_cases hc:ly c=true
      · rw [if_pos hc,Nat.add_comm,List.take_succ_cons,Fw] at hb
        rcases List.mem_cons.1 hb with e | e
        · rw [e];exact zk (by unfold mw;rw [hc];rfl)
        · exact zk (List.all_eq_true.1 (List.all_takeWhile (p:=mw) (l:=t)) b e)
      · rw [if_neg hc] at hl
        omega
    split at h
    · cases hr:gl (c :: t) with
      | none=>rw [hr] at h;cases h
      | some k=>
        rw [hr] at h;have h:(Except.ok (k,l ++ [⟨2,p,p+k,bs ((c :: t).take k)⟩]):Except Int (Nat×List Tk)) = .ok (n,l ++ [x]):=h
        injection h with h
        injection h with h1 h2
        subst h1
        have hk:((c :: t).takeWhile dZ).length=k:=by
          unfold gl at hr;split at hr
          · cases hr
          · exact Option.some.inj hr
        refine key fun b hb=>?_;rw [← hk,Fw] at hb;exact zk (by unfold mw;rw [List.all_eq_true.1 (List.all_takeWhile (p:=dZ) (l:=c :: t)) b hb,Bool.or_true])
    split at h
    · rename_i hc
      cases hr:bP p t (p+1) [] with
      | error e=>rw [hr] at h;cases h
      | ok qt=>
        obtain ⟨q,tx⟩:=qt;rw [hr] at h;have h:(Except.ok (q - p,l ++ [⟨3,p,q,bs tx⟩]):Except Int (Nat×List Tk)) = .ok (n,l ++ [x]):=h
        injection h with h
        injection h with h1 h2
        subst h1;have cK:=(dE _ _ _ hr).1;obtain ⟨a,ha⟩:=sq t _ _ hr;refine ⟨⟨c,t,rfl,by rw [hc];decide⟩,c :: a,34,?_,by decide⟩;rw [show q - p=q - (p+1)+1 by omega,List.take_succ_cons,ha];rfl
    split at h
    · injection h with h
      injection h with h1 h2
      have:=List.append_cancel_left h2
      injection this with this _
      exact absurd (by rw [← this]) h6
    split at h
    · cases h
    · rename_i hs
      injection h with h
      injection h with h1 h2
      subst h1;exact key (Ly hs)
theorem o7 {s:ByteArray} {ts:List Tk} (h:ee s = .ok ts):s.size≤65536∧VU s.data.toList∧scn s.data.toList 0 [] = .ok ts:=by
  unfold ee at h;split at h
  · cases h
  · rename_i h1
    have h2:¬ 65536<s.size:=fun e=>h1 (.inl e)
    have h3:gp s s.size 0=true:=by
      cases hv:gp s s.size 0 with
      | true=>rfl
      | false=>exact absurd (.inr hv) h1
    refine ⟨by omega,?_,?_⟩
    · rw [yG] at h3
      exact h3
    · have e:aX (s.size+1) s.data.toList 0 []=scn s.data.toList 0 []:=rfl
      rw [← e];cases hr:aX (s.size+1) s.data.toList 0 [] with
      | error e=>rw [hr] at h;cases h
      | ok aP=>
      rw [hr] at h;have h:(Except.ok aP:Except (Int×Int) (List Tk)) = .ok ts:=h
      injection h with h
      rw [h]
theorem Be {s:ByteArray} {ts:List Tk} (h1:s.size≤65536) (h2:VU s.data.toList) (h3:scn s.data.toList 0 [] = .ok ts):ee s = .ok ts:=by
  have e:aX (s.size+1) s.data.toList 0 []=scn s.data.toList 0 []:=rfl
  have hv:gp s s.size 0=true:=by
    rw [yG];exact h2
  unfold ee;rw [if_neg (by rw [hv];simp;omega),e,h3];rfl
def IY:List UInt8:=[32,47,42,32,114,32,42,47,32]
theorem Bm {s s':ByteArray} {ts:List Tk} {k P:Nat} {x:Tk} (h:ee s = .ok ts) (hs:s.size≤60000) (hx:ts[k]? = some x) (h6:x.k≠6) (h7:x.k≠7) (hP:x.fr=(P:Int)) (DY:s'.data.toList=s.data.toList.take P ++ (IY ++ s.data.toList.drop P)) :
    ∃ aP,ee s' = .ok aP∧jE ts=jE aP:=by
  obtain ⟨-,h2,h3⟩:=o7 h;obtain ⟨u,v,aP,g1,g2,g3,g4,g5,n,l1,g6⟩:=vf h3 hx h6 h7;(have hu:u.length=P:=by omega);rw [g1,← hu,List.take_left,List.drop_left] at DY;obtain ⟨⟨c,t,e,hc⟩,-⟩:=Ix g6 h6;rw [g1] at h2;obtain ⟨v1,v2⟩:=VU.cut _ _ _ (Nat.le_refl _) h2 (.inl ⟨c,t,e,hc⟩);have hz:s'.size=s'.data.toList.length:=rfl;have UJ:s.size=s.data.toList.length:=rfl;refine ⟨aP,Be ?_ ?_ (by rw [DY];exact g4),g5⟩
  · rw [hz,DY]
    rw [UJ,g1] at hs;simp [IY] at hs ⊢;omega
  · rw [DY]
    exact VU.app _ _ _ (Nat.le_refl _) v1 (VU.app _ _ _ (Nat.le_refl _) (show vL _ _=true from by decide +kernel) v2)
theorem z7 {s s':ByteArray} {ts:List Tk} {i P:Nat} {x:Tk} (h:ee s = .ok ts) (hs:s.size≤60000) (hx:ts[i]? = some x) (h6:x.k≠6) (h7:x.k≠7) (hP:x.to=(P:Int)) (DY:s'.data.toList=40 :: (s.data.toList.take P ++ [41])) :
    ∃ aP,ee s' = .ok aP∧jE aP=(5,⟨#[40]⟩) :: jE (ts.take (i+1)) ++ [(5,⟨#[41]⟩),(6,⟨#[10]⟩),(7,⟨#[]⟩)]:=by
  obtain ⟨-,h2,h3⟩:=o7 h;obtain ⟨u,v,aP,g1,g2,g4,g5,u0,z,n,l1,g6,g7⟩:=tL h3 hx h6 h7
  have pT:∃ a b,u=a ++ [b]∧b.toNat<128:=by
    obtain ⟨-,a,b,e,hb⟩:=Ix g7 h6;exact ⟨u0 ++ a,b,by rw [g6,e,List.append_assoc],hb⟩
  (have hu:u.length=P:=by omega);rw [g1,← hu,List.take_left] at DY;rw [g1] at h2;obtain ⟨v1,-⟩:=VU.cut _ _ _ (Nat.le_refl _) h2 (.inr (.inl pT));have hz:s'.size=s'.data.toList.length:=rfl;have UJ:s.size=s.data.toList.length:=rfl;refine ⟨aP,Be ?_ ?_ (by rw [DY];exact g4),g5⟩
  · rw [hz,DY]
    rw [UJ,g1] at hs;simp at hs ⊢;omega
  · rw [DY]
    exact VU.app 1 [40] _ (by decide) (show vL _ _=true from by decide +kernel) (VU.app _ _ _ (Nat.le_refl _) v1 (show vL _ _=true from by decide +kernel))
set_option maxRecDepth 100000
set_option maxHeartbeats 4000000
theorem Iy (v:Value) (w:World):(Instr.typeAssert (.iface 63 v) 20 63 true).run prog w = .ok (.tuple #[v,.bool true]) w:=by kernel_rfl
section
variable {w:World} {A B:Nat}
def dD:Array Value:=#[.int .i64 0,.int .i64 0,.int .i64 0,.string ⟨#[]⟩,.slice none 0 0]
def M2 (w:World) (a b:Nat) (pv:Int) (w':World):Prop:=aj w' a 25 dD∧aj w' b 27 #[.int .i64 4,.string ⟨#[]⟩,.int .i64 pv]∧ay (fun k=>k=a∨k=b) w w'
theorem Mq {a b:Nat} {pv:Int} {c0 c1 c2 c3 c4 d0 d1 d2:Value} (ha:aj w a 25 #[c0,c1,c2,c3,c4]) (hb:aj w b 27 #[d0,d1,d2]) (Ii:a≠b) :
    CallsD prog 32 #[.pointer (some ⟨a,0,none⟩),.pointer (some ⟨b,0,none⟩)] (.panicking (Cv pv)) w fun e u' w'=>
      e = .returned (.tuple #[])∧u' = .panicking [{ v:=EH pv,recovered:=true }]∧M2 w a b pv w':=by
  unfold Cv EH;refine callsD_of_wpS func32 rfl fun c₀ cs hu=>?_;apply wpS_seq;apply wpS_region;simp [wpOpsS,go_sem,recoverD,hu,ntmps32,Exit.thenS];apply wpS_seq;apply wpS_region;simp [wpOpsS,go_sem,Exit.thenS];refine wpS_cond (t:=true) (by simp [Act.eval,Array.replicate]) ?_;simp only [if_true];refine wpS_of_wp ?_;have HA:=zh ha;have HB:=zh hb;have qa0:=ha.cell 0;have qa1:=ha.cell 1;have qa2:=ha.cell 2;have qa3:=ha.cell 3;have qa4:=ha.cell 4;have Wa:=hb.cell 0;have V_:=hb.cell 1;have Q2:=hb.cell 2;simp at qa0 qa1 qa2 qa3 qa4 Wa V_ Q2;have qaf:=ha.frozen;have qbf:=hb.frozen;have qal:=ha.lt;have qbl:=hb.lt;have Ww:=Iy;simp only [Array.replicate_succ,Array.replicate_zero,List.push_toArray,UC,UB,VB,List.append_toArray,List.nil_append,List.cons_append];go_wp2_with fail;clear Ww ha hb
  go_region
  all_goals
    go_wp2_with fail;refine ⟨rfl,_,rfl,_,results_none rfl _ _ _,rfl,rfl,?_,?_,?_⟩
    · exact (((((HA.o.p5).far1 Ii _).far1 Ii _).far1 Ii _).alloc _).drew
    · exact (((((HB.o.far5 (Ne.symm Ii) _ _ _ _ _).set_ 0 _).set_ 1 _).set_ 2 _).alloc _).drew
    · exact (((((((((zb.set1 (.inr (.inl rfl)) _).set1 (.inr (.inl rfl)) _).set1 (.inr (.inl rfl)) _).set1 (.inr (.inl rfl)) _).set1 (.inr (.inl rfl)) _).set1 (.inr (.inr rfl)) _).set1 (.inr (.inr rfl)) _).set1 (.inr (.inr rfl)) _).alloc _).drew
theorem tJ {a b:Nat} :
    CallsD prog 32 #[.pointer (some ⟨a,0,none⟩),.pointer (some ⟨b,0,none⟩)] .returning w fun e u' w'=>e = .returned (.tuple #[])∧u' = .returning∧w'=w:=by
  refine callsD_of_wpS func32 rfl fun c₀ cs hu=>?_;apply wpS_seq;apply wpS_region;simp [wpOpsS,go_sem,recoverD,hu,ntmps32,Exit.thenS];apply wpS_seq;apply wpS_region;simp [wpOpsS,go_sem,Exit.thenS];refine wpS_cond (t:=false) (by simp [Act.eval,Array.replicate]) ?_;simp only [Bool.false_eq_true,if_false];refine wpS_of_wp (wp_skip ?_);cases c₀
  simp_all [bodyPostS,results,results32]
theorem y8 {W:World} {a b:Nat} {c0 c1 c2 c3 c4 d0 d1 d2 x0 x1 x2 x3 x6 x7 x8 x9 uP uO M5 K6 K5 M4 Qk VM VK VJ VG VD VC x23 x24 x25 x26 x27 x28 x29:Value} (h:aj W a 25 #[c0,c1,c2,c3,c4]) (h':aj W b 27 #[d0,d1,d2]) :
    (results Tryz.f19 #[x0,x1,x2,x3,.pointer (some ⟨a,0,none⟩),.pointer (some ⟨b,0,none⟩),x6,x7,x8,x9,uP,uO,M5,K6,K5,M4,Qk,VM,VK,VJ,VG,VD,VC,x23,x24,x25,x26,x27,x28,x29]).run prog W = .ok (.tuple #[.agg #[c0,c1,c2,c3,c4],.agg #[d0,d1,d2]]) W:=by
  have ND:=h.cell 0;have c1':=h.cell 1;have NC:=h.cell 2;have NB:=h.cell 3;have NA:=h.cell 4;have we:=h'.cell 0;have v_:=h'.cell 1;have v8:=h'.cell 2;simp at ND c1' NC NB NA we v_ v8;simp [results,results19,go_sem,ND,c1',NC,NB,NA,we,v_,v8]
def ow (x:List Tk→PM No) (s:ByteArray):Option (Except (Int×Int) No):=
  match ee s with
  | .error cp=>some (.error cp)
  | .ok ts=>match x ts (0,false) with
    | none=>none
    | some (.error p)=>some (.error (4,p))
    | some (.ok (n,_))=>some (if (200:Int)<depW n then .error (5,0) else .ok n)
def F2 (w:World) (r:Except (Int×Int) No) (e:Ending) (w':World):Prop:=
  Below w.heap.size w w'∧match r with
  | .error (c,p)=>e = .returned (.tuple #[.agg dD,.agg #[.int .i64 c,.string ⟨#[]⟩,.int .i64 p]])
  | .ok n=>∃ A c,e = .returned (.tuple #[.agg #[.int .i64 n.k,.int .i64 n.fr,.int .i64 n.to,.string n.tx,.slice A n.ks.length c],.agg #[.int .i64 0,.string ⟨#[]⟩,.int .i64 0]])∧aQ w' (kE w w') (.slice A n.ks.length c) n.ks
theorem va {s:ByteArray} {c p:Int} (h:ee s = .error (c,p)):c=2∨c=3:=by
  unfold ee at h;split at h
  · cases h;exact .inl rfl
  · cases hq:aX (s.size+1) s.data.toList 0 [] with
    | error p=>rw [hq] at h;cases h;exact .inr rfl
    | ok l=>rw [hq] at h;cases h
theorem vg {s:ByteArray} {x:List Tk→PM No} {n:Nat} {cap:Array Value} (hs:s.size≤140737488355328) (hT:Lib.Utf8Tabs 0 1 w) (h3:3≤w.heap.size) {mm:Int} (n_:w.cell? ⟨2,0,none⟩=some (.int .i64 mm))
    (BO:∀ w v,(callFunc n (#[v] ++ cap)).run prog w = .ok (.enter n (#[v] ++ cap)) w)
    (hc:∀ (E:Env) (W:World) r,eH E→Str.WT E.ts→Below w.heap.size w W→x E.ts (0,false)=some r→PS E W 0 false→Calls prog n (#[.pointer (some ⟨E.g,0,none⟩)] ++ cap) W (cV E eh W (lp W) r))
    {r:Except (Int×Int) No} (hr:ow x s=some r) :
    Calls prog 19 #[.string s,.func (.func n) #[] cap] w (F2 w r):=by
  have UV:∀ (fn:Fn) (first cap:Array Value) (w:World),(Instr.makeFunc fn first cap).run prog w = .ok (.func fn first cap) w:=fun _ _ _ _=>rfl;have HR:=zh hr;have HT:=zh hT;have Ay:=zh n_;have HC:=zh hc;clear hr hT n_ hc
  go_enter_defers func19,ntmps19
  go_wp2_with fail;have Ih:Below w.heap.size w ((w.alloc (.cells dD 25)).alloc (.cells #[.int .i64 0,.string ⟨#[]⟩,.int .i64 0] 27)):=((Below.refl _ _).alloc (Nat.le_refl _) _).alloc (by simp) _;refine (yQ hs (Utf8Tabs_below HT.o Ih) (by simp;omega) (mm:=mm) (by refine Eq.trans (Ih.cell (p:=⟨2,0,none⟩) (by show 2<_;omega)) Ay.o)).mono ?_;rintro e w1 ⟨cB,ua⟩;have kb:Hd (Below w.heap.size w w1):=zh (Ih.trans (cB.mono (by simp;omega)));have sb:Hd (aj w1 w.heap.size 25 dD):=zh ((aj.alloc (aj.new _ _ _) _).below cB (by simp;omega));have wP:Hd (aj w1 (w.heap.size+1) 27 #[.int .i64 0,.string ⟨#[]⟩,.int .i64 0]):=zh ((aj.new' (by simp)).below cB (by simp));(have Jr:w.heap.size+2≤w1.heap.size:=by have:=cB.size;simp at this;omega);(have kB:w.heap.size<w1.heap.size:=by omega);(have D9:w.heap.size+1<w1.heap.size:=by omega);have ud:=sb.o.cell 0;have D7:=sb.o.cell 1;have K8:=sb.o.cell 2;have Qx:=sb.o.cell 3;have OS:=sb.o.cell 4;have YT:=sb.o.frozen;have JE:=wP.o.cell 0;have JD:=wP.o.cell 1;have G0:=wP.o.cell 2;have YU:=wP.o.frozen;simp [dD] at ud D7 K8 Qx OS;simp at JE JD G0;have sX:=zh ua;clear Ih cB ua;obtain ⟨rs,GP⟩:∃ rs,ee s=rs:=⟨_,rfl⟩;have Qc:=zh GP;clear GP;cases rs with
  | error cp=>
    obtain ⟨c,p⟩:=cp;have h1:=sX.o;rw [Qc.o] at h1;obtain rfl:=h1;(obtain rfl:r = .error (c,p):=by have h2:=HR.o;unfold ow at h2;rw [Qc.o] at h2;exact (Option.some.inj h2).symm);have GZ:=va Qc.o;clear sX;rcases GZ with rfl | rfl
    all_goals
      go_wp2_with fail
      go_region
      all_goals
        go_wp2_with fail;refine ⟨_,y8 (((((((sb.o.far1 (by omega) _).far1 (by omega) _).far1 (by omega) _).p5).far1 (by omega) _).far1 (by omega) _).far1 (by omega) _).drew (((((((wP.o.set_ 0 _).set_ 1 _).set_ 2 _).f5).set_ 0 _).set_ 1 _).set_ 2 _).drew,?_⟩;exact ⟨(((((((((((kb.o.setCell (by simp) _).setCell (by simp) _).setCell (by simp) _).setCell (by simp) _).setCell (by simp) _).setCell (by simp) _).setCell (by simp) _).setCell (by simp) _).setCell (by simp) _).setCell (by simp) _).setCell (by simp) _).drew,rfl⟩
  | ok l=>
    have h1:=sX.o;rw [Qc.o] at h1;obtain ⟨A,c,rfl,how⟩:=h1;obtain ⟨je,GX⟩:=jK Qc.o;obtain ⟨LP,LO,C7,yb⟩:=GX.wt;clear sX GX
    have O7:l.length≤c∧∃ a,A=some ⟨a,0,none⟩∧a<w1.heap.size:=by
      obtain ⟨a,c',hv,-,h4⟩:=how.form C7;cases hv;rcases how.2 with ⟨h5,h6⟩ | ⟨g,cap',cur,hv,-,-,h6,-⟩
      · omega
      · cases hv
        exact ⟨h6,a,rfl,h4⟩
    obtain ⟨O7,a,rfl,QC⟩:=O7;have Lo:=zh how;clear how;go_wp2_with fail;obtain ⟨E,U9⟩:∃ E:Env,E=⟨w1.heap.size,a,0,c,l⟩:=⟨_,rfl⟩;(have hEg:E.g=w1.heap.size:=by rw [U9]);(have Zf:E.ts=l:=by rw [U9]);have Y_:eH E:=by subst U9;exact ⟨LP,by show l.length≤1000000;omega,O7⟩
    have Xl:PS E ((((w1.setCell ⟨w.heap.size+1,0,none⟩ (.int .i64 0)).setCell ⟨w.heap.size+1,1,none⟩ (.string ⟨#[]⟩)).setCell ⟨w.heap.size+1,2,none⟩ (.int .i64 0)).alloc (.cells #[.slice (some ⟨a,0,none⟩) l.length c,.int .i64 0,.bool false] 66)) 0 false:=by
      subst U9;refine ⟨aj.new' (by simp),fun j hj=>?_,by show a≠w1.heap.size;omega,by show a<_;simp;omega,C7⟩;have h5:=(re ((ownsRow_setCell_below (ownsRow_setCell_below (ownsRow_setCell_below Lo.o (a:=⟨w.heap.size+1,0,none⟩) (by simp) (.int .i64 0)) (a:=⟨w.heap.size+1,1,none⟩) (by simp) (.string ⟨#[]⟩)) (a:=⟨w.heap.size+1,2,none⟩) (by simp) (.int .i64 0)).alloc (.cells #[.slice (some ⟨a,0,none⟩) l.length c,.int .i64 0,.bool false] 66)) hj);have h6:ap l j=l[j]:=by have hj':j<l.length:=hj;simp [ap,hj']
      simpa [Env.tok,h6] using h5
    have FR:Below w.heap.size w ((((w1.setCell ⟨w.heap.size+1,0,none⟩ (.int .i64 0)).setCell ⟨w.heap.size+1,1,none⟩ (.string ⟨#[]⟩)).setCell ⟨w.heap.size+1,2,none⟩ (.int .i64 0)).alloc (.cells #[.slice (some ⟨a,0,none⟩) l.length c,.int .i64 0,.bool false] 66)):=(((kb.o.setCell (by simp) _).setCell (by simp) _).setCell (by simp) _).alloc (by simp;omega) _;have QE:aj ((((w1.setCell ⟨w.heap.size+1,0,none⟩ (.int .i64 0)).setCell ⟨w.heap.size+1,1,none⟩ (.string ⟨#[]⟩)).setCell ⟨w.heap.size+1,2,none⟩ (.int .i64 0)).alloc (.cells #[.slice (some ⟨a,0,none⟩) l.length c,.int .i64 0,.bool false] 66)) w.heap.size 25 dD:=(((sb.o.far1 (by omega) _).far1 (by omega) _).far1 (by omega) _).alloc _;have Xr:aj ((((w1.setCell ⟨w.heap.size+1,0,none⟩ (.int .i64 0)).setCell ⟨w.heap.size+1,1,none⟩ (.string ⟨#[]⟩)).setCell ⟨w.heap.size+1,2,none⟩ (.int .i64 0)).alloc (.cells #[.slice (some ⟨a,0,none⟩) l.length c,.int .i64 0,.bool false] 66)) (w.heap.size+1) 27 #[.int .i64 0,.string ⟨#[]⟩,.int .i64 0]:=(((wP.o.set_ 0 _).set_ 1 _).set_ 2 _).alloc _;have hWs:((((w1.setCell ⟨w.heap.size+1,0,none⟩ (.int .i64 0)).setCell ⟨w.heap.size+1,1,none⟩ (.string ⟨#[]⟩)).setCell ⟨w.heap.size+1,2,none⟩ (.int .i64 0)).alloc (.cells #[.slice (some ⟨a,0,none⟩) l.length c,.int .i64 0,.bool false] 66)).heap.size=w1.heap.size+1:=by simp
    generalize hW:((((w1.setCell ⟨w.heap.size+1,0,none⟩ (.int .i64 0)).setCell ⟨w.heap.size+1,1,none⟩ (.string ⟨#[]⟩)).setCell ⟨w.heap.size+1,2,none⟩ (.int .i64 0)).alloc (.cells #[.slice (some ⟨a,0,none⟩) l.length c,.int .i64 0,.bool false] 66))=W at Xl FR QE Xr hWs
    (try rw [hW])
    clear hW
    obtain ⟨rx,YD,GQ⟩:∃ rx,x l (0,false)=some rx∧r=(match rx with | .error p=>.error (4,p) | .ok (n,_)=>if (200:Int)<depW n then .error (5,0) else .ok n):=by
      have h2:=HR.o;unfold ow at h2;rw [Qc.o] at h2;simp only at h2;cases hx:x l (0,false) with
      | none=>rw [hx] at h2;cases h2
      | some rx=>
        rw [hx] at h2;refine ⟨rx,rfl,?_⟩;cases rx with
        | error p=>exact (Option.some.inj h2).symm
        | ok ns=>exact (Option.some.inj h2).symm
    have RQ:=HC.o E W rx Y_ (Zf ▸ LO) FR (Zf ▸ YD) Xl;rw [hEg] at RQ;refine RQ.mono ?_;rintro e w2 hp;clear RQ;have JG:=hp.1;have Lb:aj w2 w.heap.size 25 dD:=QE.but JG (fun h=>h.elim (fun h=>by omega) id);have Xu:aj w2 (w.heap.size+1) 27 #[.int .i64 0,.string ⟨#[]⟩,.int .i64 0]:=Xr.but JG (fun h=>h.elim (fun h=>by omega) id);have Xv:Below w.heap.size w w2:=FR.trans (JG.below (fun i _ h=>h.elim (fun h=>by omega) False.elim) (by omega));have hs2:=JG.size;cases rx with
    | error p=>
      obtain ⟨-,rfl⟩:=hp;simp only at GQ;subst GQ;refine leaves_cons (f:=32) (args:=#[.pointer (some ⟨w.heap.size,0,none⟩),.pointer (some ⟨w.heap.size+1,0,none⟩)]) (by simp) (by simp [go_sem]) ?_;refine (Mq Lb Xu (by omega)).mono ?_;rintro e u' w4 ⟨rfl,rfl,L3,JB,L2⟩;refine ⟨_,y8 L3 JB,?_⟩;exact ⟨Xv.trans (L2.below (fun i _ h=>by rcases h with rfl | rfl <;> omega) (by omega)),rfl⟩
    | ok ns=>
      obtain ⟨n1,s1⟩:=ns;obtain ⟨-,-,v,rfl,A',c',rfl,ae⟩:=hp;simp only at GQ;have q0:=Lb.cell 0;have q1:=Lb.cell 1;have q2:=Lb.cell 2;have q3:=Lb.cell 3;have q4:=Lb.cell 4;have qf:=Lb.frozen;have ql:=Lb.lt;simp [dD] at q0 q1 q2 q3 q4;have MS:=zh Lb;have Z6:=zh Xu;have aE:=zh Xv;have g_:=zh ae;have r5:=zh GQ;clear Lb Xu Xv ae GQ JG QE Xr FR Xl Y_ YD;go_wp2_with fail;have Xn:aj (((((w2.setCell ⟨w.heap.size,0,none⟩ (.int .i64 n1.k)).setCell ⟨w.heap.size,1,none⟩ (.int .i64 n1.fr)).setCell ⟨w.heap.size,2,none⟩ (.int .i64 n1.to)).setCell ⟨w.heap.size,3,none⟩ (.string n1.tx)).setCell ⟨w.heap.size,4,none⟩ (.slice A' n1.ks.length c')) w.heap.size 25 #[.int .i64 n1.k,.int .i64 n1.fr,.int .i64 n1.to,.string n1.tx,.slice A' n1.ks.length c']:=MS.o.p5;have Xt:aj (((((w2.setCell ⟨w.heap.size,0,none⟩ (.int .i64 n1.k)).setCell ⟨w.heap.size,1,none⟩ (.int .i64 n1.fr)).setCell ⟨w.heap.size,2,none⟩ (.int .i64 n1.to)).setCell ⟨w.heap.size,3,none⟩ (.string n1.tx)).setCell ⟨w.heap.size,4,none⟩ (.slice A' n1.ks.length c')) (w.heap.size+1) 27 #[.int .i64 0,.string ⟨#[]⟩,.int .i64 0]:=Z6.o.f5;have eF:Below w.heap.size w (((((w2.setCell ⟨w.heap.size,0,none⟩ (.int .i64 n1.k)).setCell ⟨w.heap.size,1,none⟩ (.int .i64 n1.fr)).setCell ⟨w.heap.size,2,none⟩ (.int .i64 n1.to)).setCell ⟨w.heap.size,3,none⟩ (.string n1.tx)).setCell ⟨w.heap.size,4,none⟩ (.slice A' n1.ks.length c')):=(((((aE.o.setCell (by simp) _).setCell (by simp) _).setCell (by simp) _).setCell (by simp) _).setCell (by simp) _)
      have Ij:aQ (((((w2.setCell ⟨w.heap.size,0,none⟩ (.int .i64 n1.k)).setCell ⟨w.heap.size,1,none⟩ (.int .i64 n1.fr)).setCell ⟨w.heap.size,2,none⟩ (.int .i64 n1.to)).setCell ⟨w.heap.size,3,none⟩ (.string n1.tx)).setCell ⟨w.heap.size,4,none⟩ (.slice A' n1.ks.length c')) (fun b=>w.heap.size+1<b∧b<w2.heap.size) (.slice A' n1.ks.length c') n1.ks:=g_.o.keep (fun b hb=>by
        have gQ:b≠w.heap.size:=by have:=hb.1;omega
        repeat rw [Below.heap_setCell _ _ _ b gQ]) (fun b hb=>⟨by have:=hb.1;omega,hb.2⟩)
      have hs3:(((((w2.setCell ⟨w.heap.size,0,none⟩ (.int .i64 n1.k)).setCell ⟨w.heap.size,1,none⟩ (.int .i64 n1.fr)).setCell ⟨w.heap.size,2,none⟩ (.int .i64 n1.to)).setCell ⟨w.heap.size,3,none⟩ (.string n1.tx)).setCell ⟨w.heap.size,4,none⟩ (.slice A' n1.ks.length c')).heap.size=w2.heap.size:=by simp
      generalize hW3:(((((w2.setCell ⟨w.heap.size,0,none⟩ (.int .i64 n1.k)).setCell ⟨w.heap.size,1,none⟩ (.int .i64 n1.fr)).setCell ⟨w.heap.size,2,none⟩ (.int .i64 n1.to)).setCell ⟨w.heap.size,3,none⟩ (.string n1.tx)).setCell ⟨w.heap.size,4,none⟩ (.slice A' n1.ks.length c'))=W3 at Xn Xt eF Ij hs3
      (try rw [hW3])
      clear hW3 q0 q1 q2 q3 q4 qf ql g_ MS Z6 aE;refine (Cb (n:=n1) (cs:=[.int .i64 n1.k,.int .i64 n1.fr,.int .i64 n1.to,.string n1.tx,.slice A' n1.ks.length c']) (bG.mk_ (Ij.keep zr (fun b hb=>by have:=hb.2;omega)))).mono ?_;rintro e w4 ⟨rfl,dB⟩;have L':=Xn.below dB (by omega);have JL:=Xt.below dB (by omega);have Zh:Below w.heap.size w w4:=eF.trans (dB.mono (by omega));have hs4:=dB.size;have Y':aQ w4 (fun b=>w.heap.size+1<b∧b<w2.heap.size) (.slice A' n1.ks.length c') n1.ks:=Ij.keep (fun b hb=>dB.block b (by have:=hb.2;omega)) (fun b hb=>hb);have q0:=L'.cell 0;have q1:=L'.cell 1;have q2:=L'.cell 2;have q3:=L'.cell 3;have q4:=L'.cell 4;have qf:=L'.frozen;have ql:=L'.lt;have d0:=JL.cell 0;have d1:=JL.cell 1;have d2:=JL.cell 2;have df:=JL.frozen;have dl:=JL.lt;simp at q0 q1 q2 q3 q4 d0 d1 d2;have Z0:=zh L';have QV:=zh JL;have bu:=zh Zh;have HR4:=zh Y';clear Xn Xt eF Ij dB L' JL Zh Y';by_cases hd:(200:Int)<depW n1
      · have hdd:decide ((200:Int)<depW n1)=true:=by simpa using hd
        have GQ:=r5.o;rw [if_pos hd] at GQ;subst GQ;go_wp2_with fail;refine leaves_cons (f:=32) (args:=#[.pointer (some ⟨w.heap.size,0,none⟩),.pointer (some ⟨w.heap.size+1,0,none⟩)]) (by simp) (by simp [go_sem]) ?_;refine tJ.mono ?_;rintro e u' w5 ⟨rfl,rfl,rfl⟩;refine ⟨_,y8 ((((Z0.o.p5).far1 (by omega) _).far1 (by omega) _).far1 (by omega) _) ((((QV.o.f5).set_ 0 _).set_ 1 _).set_ 2 _),?_⟩;exact ⟨((((((((bu.o.setCell (by simp) _).setCell (by simp) _).setCell (by simp) _).setCell (by simp) _).setCell (by simp) _).setCell (by simp) _).setCell (by simp) _).setCell (by simp) _),rfl⟩
      · have hdd:decide ((200:Int)<depW n1)=false:=by simpa using hd
        have GQ:=r5.o;rw [if_neg hd] at GQ;subst GQ;go_wp2_with fail;refine leaves_cons (f:=32) (args:=#[.pointer (some ⟨w.heap.size,0,none⟩),.pointer (some ⟨w.heap.size+1,0,none⟩)]) (by simp) (by simp [go_sem]) ?_;refine tJ.mono ?_;rintro e u' w5 ⟨rfl,rfl,rfl⟩;refine ⟨_,y8 ((((Z0.o.p5).far1 (by omega) _).far1 (by omega) _).far1 (by omega) _) ((((QV.o.f5).set_ 0 _).set_ 1 _).set_ 2 _),?_⟩;refine ⟨((((((((bu.o.setCell (by simp) _).setCell (by simp) _).setCell (by simp) _).setCell (by simp) _).setCell (by simp) _).setCell (by simp) _).setCell (by simp) _).setCell (by simp) _),A',c',rfl,HR4.o.keep (fun b hb=>?_) (fun b hb=>⟨by have:=hb.1;omega,by have:=hb.2;simp;omega⟩)⟩;(have h1:b≠w.heap.size:=by have:=hb.1;omega);(have h2:b≠w.heap.size+1:=by have:=hb.1;omega);(iterate 3 refine (Below.heap_setCell _ _ _ _ h2).trans ?_);(iterate 5 refine (Below.heap_setCell _ _ _ _ h1).trans ?_);rfl
end
set_option maxRecDepth 100000
set_option maxHeartbeats 4000000
def oh (s:ByteArray):Option (Except (Int×Int) No):=ow (fun ts=>ky ts (dM ts (gr ts ts.length))) s
section
variable {w:World}
theorem IR {W:World} {a b:Nat} {c0 c1 c2 c3 c4 d0 d1 d2 x0 x1 x4 x5 x6 x7 x8:Value} (h:aj W a 25 #[c0,c1,c2,c3,c4]) (h':aj W b 27 #[d0,d1,d2]) :
    (results Tryz.f10 #[x0,x1,.pointer (some ⟨a,0,none⟩),.pointer (some ⟨b,0,none⟩),x4,x5,x6,x7,x8]).run prog W = .ok (.tuple #[.agg #[c0,c1,c2,c3,c4],.agg #[d0,d1,d2]]) W:=by
  have ND:=h.cell 0;have c1':=h.cell 1;have NC:=h.cell 2;have NB:=h.cell 3;have NA:=h.cell 4;have we:=h'.cell 0;have v_:=h'.cell 1;have v8:=h'.cell 2;simp at ND c1' NC NB NA we v_ v8;simp [results,results10,go_sem,ND,c1',NC,NB,NA,we,v_,v8]
theorem Sm (w:World) (v:Value):(callFunc 21 #[v]).run prog w = .ok (.enter 21 #[v]) w:=by kernel_rfl
theorem Sk (w:World) (v u:Value):(callFunc 34 (#[v] ++ #[u])).run prog w = .ok (.enter 34 (#[v] ++ #[u])) w:=by kernel_rfl
theorem Cx {n:Nat}:Calls prog 20 #[.func (.func n) #[] #[]] w fun e w'=>∃ wb,w.heap.size≤wb∧e = .returned (.func (.func 34) #[] #[.pointer (some ⟨wb,0,none⟩)])∧aj w' wb 46 #[.func (.func n) #[] #[]]∧Below w.heap.size w w':=by
  have UV:∀ (fn:Fn) (first cap:Array Value) (w:World),(Instr.makeFunc fn first cap).run prog w = .ok (.func fn first cap) w:=fun _ _ _ _=>rfl;go_enter func20,ntmps20;go_wp2_with fail;go_ret;exact ⟨_,Nat.le_refl _,rfl,aj.new _ _ _,(Below.refl _ _).alloc (Nat.le_refl _) _⟩
theorem AQ {s:ByteArray} (hs:s.size≤140737488355328) (hT:Lib.Utf8Tabs 0 1 w) (h3:3≤w.heap.size) {mm:Int} (n_:w.cell? ⟨2,0,none⟩=some (.int .i64 mm)) {r:Except (Int×Int) No} (hr:oh s=some r) :
    Calls prog 10 #[.string s] w (F2 w r):=by
  have HT:=zh hT;have Ay:=zh n_;have HR:=zh hr;clear hT n_ hr;go_enter func10,ntmps10;go_wp2_with fail;have vE:Below w.heap.size w ((w.alloc (.cells dD 25)).alloc (.cells #[.int .i64 0,.string ⟨#[]⟩,.int .i64 0] 27)):=((Below.refl _ _).alloc (Nat.le_refl _) _).alloc (by simp) _;have L_:aj ((w.alloc (.cells dD 25)).alloc (.cells #[.int .i64 0,.string ⟨#[]⟩,.int .i64 0] 27)) w.heap.size 25 dD:=(aj.new _ _ _).alloc _;have Ma:aj ((w.alloc (.cells dD 25)).alloc (.cells #[.int .i64 0,.string ⟨#[]⟩,.int .i64 0] 27)) (w.heap.size+1) 27 #[.int .i64 0,.string ⟨#[]⟩,.int .i64 0]:=aj.new' (by simp);have U6:((w.alloc (.cells dD 25)).alloc (.cells #[.int .i64 0,.string ⟨#[]⟩,.int .i64 0] 27)).heap.size=w.heap.size+2:=by simp
  generalize sG:((w.alloc (.cells dD 25)).alloc (.cells #[.int .i64 0,.string ⟨#[]⟩,.int .i64 0] 27))=W0 at vE L_ Ma U6
  (try rw [sG])
  (try (unfold dD at sG;rw [sG]))
  clear sG;refine (Cx (n:=21)).mono ?_;rintro e w0 ⟨wb,hwb,rfl,hk,Mc⟩;have vE:Below w.heap.size w w0:=vE.trans (Mc.mono (by omega));have L_:=L_.below Mc (by omega);have Ma:=Ma.below Mc (by omega);have hZ1:=Mc.size;(have U6:w.heap.size+2≤w0.heap.size:=by omega);have HK:=zh hk;clear hk Mc hZ1;go_wp2_with fail;refine (vg (n:=34) (cap:=#[.pointer (some ⟨wb,0,none⟩)]) hs (Utf8Tabs_below HT.o vE) (by omega) (mm:=mm) (by refine Eq.trans (vE.cell (p:=⟨2,0,none⟩) (by show 2<_;omega)) Ay.o) (fun w v=>Sk w v _) (fun E W r hO hw hb hx hP=>Ag hO (fun w=>Sm w _) (fun w r hr hP=>bZ hO (gr_fin hO.wt _ 0) (Wc hO _) (Nat.le_refl 0) hr hP) (expr_fin hO.wt (gr_fin hO.wt _ 0) (Nat.le_refl 0) hP.ilt) (HK.o.below hb HK.o.lt) hx hP) HR.o).mono ?_;rintro e w1 ⟨cB,ua⟩;have kb:Hd (Below w.heap.size w w1):=zh (vE.trans (cB.mono (by omega)));have sb:Hd (aj w1 w.heap.size 25 dD):=zh (L_.below cB (by omega));have wP:Hd (aj w1 (w.heap.size+1) 27 #[.int .i64 0,.string ⟨#[]⟩,.int .i64 0]):=zh (Ma.below cB (by omega));have kB:=sb.o.lt;have D9:=wP.o.lt;have ud:=sb.o.cell 0;have D7:=sb.o.cell 1;have K8:=sb.o.cell 2;have Qx:=sb.o.cell 3;have OS:=sb.o.cell 4;have YT:=sb.o.frozen;have JE:=wP.o.cell 0;have JD:=wP.o.cell 1;have G0:=wP.o.cell 2;have YU:=wP.o.frozen;simp [dD] at ud D7 K8 Qx OS;simp at JE JD G0;have Jr:=cB.size;clear cB vE L_ Ma;cases r with
  | error cp=>
    obtain ⟨c,p⟩:=cp;obtain rfl:=ua;unfold dD;go_wp2_with fail;refine bodyPost_ret (IR ((((sb.o.p5).far1 (by omega) _).far1 (by omega) _).far1 (by omega) _) ((((wP.o.f5).set_ 0 _).set_ 1 _).set_ 2 _)) rfl ?_;exact ⟨((((((((kb.o.setCell (by simp) _).setCell (by simp) _).setCell (by simp) _).setCell (by simp) _).setCell (by simp) _).setCell (by simp) _).setCell (by simp) _).setCell (by simp) _),rfl⟩
  | ok n1=>
    obtain ⟨A',c',rfl,ae⟩:=ua;have g_:=zh ae;clear ae;go_wp2_with fail;refine bodyPost_ret (IR ((((sb.o.p5).far1 (by omega) _).far1 (by omega) _).far1 (by omega) _) ((((wP.o.f5).set_ 0 _).set_ 1 _).set_ 2 _)) rfl ?_;refine ⟨((((((((kb.o.setCell (by simp) _).setCell (by simp) _).setCell (by simp) _).setCell (by simp) _).setCell (by simp) _).setCell (by simp) _).setCell (by simp) _).setCell (by simp) _),A',c',rfl,g_.o.keep (fun b hb=>?_) (fun b hb=>⟨by have:=hb.1;omega,by have:=hb.2;simp;omega⟩)⟩;(have h1:b≠w.heap.size:=by have:=hb.1;omega);(have h2:b≠w.heap.size+1:=by have:=hb.1;omega);(iterate 3 refine (Below.heap_setCell _ _ _ _ h2).trans ?_);(iterate 5 refine (Below.heap_setCell _ _ _ _ h1).trans ?_);rfl
end
mutual
theorem zW:∀ (d:Int) (n:No),qs d (B1 n)=qs d n
  | d,.mk k f t x ks=>by
    rw [B1,qs,qs,Ca]
theorem Ca:∀ (d:Int) (l:List No),iN d (ob l)=iN d l
  | d,[]=>by rw [ob]
  | d,n :: ns=>by rw [ob,iN,iN,zW,Ca]
end
theorem EN.depW {n n':No} (h:EN n n'):depW n=depW n':=by
  have h:B1 n=B1 n':=h;unfold Go.Proofs.YtfmgdmeopakdaaaGreatDoor.depW;rw [← zW 0 n,h,zW]
theorem Fv {ts aP:List Tk} (h:jE ts=jE aP) (i:Nat):TS (ap ts i) (ap aP i):=by
  have e:∀ l:List Tk,kt (ap l i)=(jE l).getD i (7,⟨#[]⟩):=by
    intro l;unfold ap jE;rw [List.getD_eq_getElem?_getD,List.getD_eq_getElem?_getD,List.getElem?_map];cases l[i]? <;> rfl
  have h1:=e ts;rw [h,← e aP] at h1;exact ⟨congrArg Prod.fst h1,congrArg Prod.snd h1⟩
theorem vh {x:List Tk→PM No} {s:ByteArray} {n:No} (h:ow x s=some (.ok n)):∃ ts s',ee s = .ok ts∧x ts (0,false)=some (.ok (n,s'))∧depW n≤200:=by
  unfold ow at h;cases hs:ee s with
  | error cp=>rw [hs] at h;cases h
  | ok ts=>
    rw [hs] at h;simp only at h;cases hx:x ts (0,false) with
    | none=>rw [hx] at h;cases h
    | some r=>
      rw [hx] at h;cases r with
      | error p=>cases h
      | ok ns=>
        obtain ⟨m,s'⟩:=ns;simp only [Option.some.injEq] at h;split at h
        · cases h
        · injection h with h
          subst h;exact ⟨ts,s',rfl,hx,by omega⟩
theorem Bq {x:List Tk→PM No} {s:ByteArray} {n:No} {ts:List Tk} {s':Ps} (h1:ee s = .ok ts) (h2:x ts (0,false)=some (.ok (n,s'))):ow x s=some (if (200:Int)<depW n then .error (5,0) else .ok n):=by
  unfold ow;rw [h1];simp only;rw [h2]
theorem J5 {ts:List Tk} {x:PM No} {n:No} {s':Ps} (h:ky ts x (0,false)=some (.ok (n,s'))):∃ s1,x (0,false)=some (.ok (n,s1))∧((ap ts s1.1).k=7∨((ap ts s1.1).k=6∧(ap ts (s1.1+1)).k=7)):=by
  unfold ky at h;obtain ⟨a,s1,h1,h2⟩:=bind_ok h;have h2:(if (ap ts s1.1).k=6 then (do h_;let t ← fo ts;if t.k=7 then pure a else kh ts) else if (ap ts s1.1).k=7 then pure a else kh ts:PM No) s1=some (.ok (n,s')):=h2;split at h2
  · rename_i h6
    have h2:(if (ap ts (s1.1+1)).k=7 then pure a else kh ts:PM No) (s1.1+1,s1.2)=some (.ok (n,s')):=h2;split at h2
    · rename_i h7
      have h2:(.ok (a,(s1.1+1,s1.2)):Except Int (No×Ps)) = .ok (n,s'):=Option.some.inj h2;cases h2;exact ⟨s1,h1,.inr ⟨h6,h7⟩⟩
    · cases Option.some.inj h2
  · split at h2
    · rename_i h7
      have h2:(.ok (a,s1):Except Int (No×Ps)) = .ok (n,s'):=Option.some.inj h2;cases h2;exact ⟨_,h1,.inl h7⟩
    · cases Option.some.inj h2
theorem I1 {ts:List Tk} {j q:Nat} {n:No} (hq:0<ts.length) (h0:(ap ts 0).k=5∧(ap ts 0).tx=⟨#[40]⟩) (hx:dM ts (gr ts q) (1,false)=some (.ok (n,(j,false)))) (h1:(ap ts j).k=5∧(ap ts j).tx=⟨#[41]⟩) (h2:(ap ts (j+1)).k=6) (h3:(ap ts (j+2)).k=7) :
    ∃ fr Fq,ky ts (dM ts (gr ts (q+1))) (0,false)=some (.ok (.mk 44 fr Fq ⟨#[]⟩ [n],(j+2,false))):=by
  (have o0:∀ l,oneOf (ap ts 0) l=iJ ⟨5,0,0,⟨#[40]⟩⟩ l:=fun l=>by unfold oneOf iJ;rw [h0.1,h0.2];rfl);(have o1:oneOf (ap ts j) [⟨#[41]⟩]=true:=by unfold oneOf iJ;rw [h1.1,h1.2];rfl);have o2:∀ l,oneOf (ap ts (j+1)) l=false:=fun l=>Dl.one (.inl h2);have r2:dm (ap ts (j+1))=0:=Dl.rank (.inl h2)
  have hop:dY ts (gr ts (q+1)) (0,false)=some (.ok (.mk 44 (ap ts 0).fr (ap ts j).to ⟨#[]⟩ [n],(j+1,false))):=by
    unfold dY;have e0:fo ts (0,false)=some (.ok (ap ts 0,(0,false))):=rfl;rw [cd e0,if_neg (by rw [h0.1];decide),if_neg (by rw [h0.1];decide),if_neg (by rw [h0.1];decide)]
    have e1:bc ts [⟨#[40]⟩] (0,false)=some (.ok (true,(1,false))):=by
      unfold bc;rw [if_pos (by rw [o0];rfl)]
    rw [cd e1,if_pos rfl];have e2:fP false (gr ts (q+1)).expr (1,false)=some (.ok (n,(j,false))):=FU (s:=(1,false)) (s1:=(j,false)) hx;rw [cd e2]
    have e3:cE ts ⟨#[41]⟩ (j,false)=some (.ok (ap ts j,(j+1,false))):=by
      unfold cE;rw [if_pos o1]
    rw [cd e3];rfl
  have ht:∀ l,bc ts l (j+1,false)=some (.ok (false,(j+1,false))):=fun l=>by
    unfold bc;rw [if_neg (by rw [o2];decide)]
  have hsx:∀ x,eT ts (gr ts (q+1)) x (j+1,false)=some (.ok (x,(j+1,false))):=fun x=>by
    unfold eT cw
    have e:eI ts (gr ts (q+1)) x (j+1,false)=some (.ok ((x,false),(j+1,false))):=by
      unfold eI;rw [cd (ht _),if_neg (by decide),cd (ht _),if_neg (by decide),cd (ht _),if_neg (by decide)];rfl
    rw [cd e];rfl
  have hbx:∀ x,js ts (gr ts (q+1)) x 1 (j+1,false)=some (.ok (x,(j+1,false))):=fun x=>by
    unfold js eM;have e:fo ts (j+1,false)=some (.ok (ap ts (j+1),(j+1,false))):=rfl;rw [cd e,if_pos (by rw [r2];decide)];rfl
  have hex:dM ts (gr ts (q+1)) (0,false)=some (.ok (.mk 44 (ap ts 0).fr (ap ts j).to ⟨#[]⟩ [n],(j+1,false))):=by
    unfold dM fY eX;have e0:fo ts (0,false)=some (.ok (ap ts 0,(0,false))):=rfl
    have e1:bc ts [⟨#[45]⟩,⟨#[33]⟩,⟨#[38]⟩,⟨#[42]⟩,⟨#[60,45]⟩] (0,false)=some (.ok (false,(0,false))):=by
      unfold bc;rw [if_neg (by rw [o0];decide)]
    have e2:(do
        let t ← fo ts
        let q_1 ← bc ts [⟨#[45]⟩,⟨#[33]⟩,⟨#[38]⟩,⟨#[42]⟩,⟨#[60,45]⟩]
        if q_1=true then do
          let x ← (gr ts (q+1)).unary
          bd ts 51 t.fr t.tx [x]
        else do
          let x ← dY ts (gr ts (q+1))
          eT ts (gr ts (q+1)) x:PM No) (0,false)=some (.ok (.mk 44 (ap ts 0).fr (ap ts j).to ⟨#[]⟩ [n],(j+1,false))):=by
      rw [cd e0,cd e1,if_neg (by decide),cd hop];exact hsx _
    rw [cd e2];exact hbx _
  refine ⟨(ap ts 0).fr,(ap ts j).to,?_⟩;unfold ky;rw [cd hex];have e0:fo ts (j+1,false)=some (.ok (ap ts (j+1),(j+1,false))):=rfl;rw [cd e0,if_pos h2];have e1:h_ (j+1,false)=some (.ok ((),(j+2,false))):=rfl;rw [cd e1];have e2:fo ts (j+2,false)=some (.ok (ap ts (j+2),(j+2,false))):=rfl;rw [cd e2,if_pos h3];rfl
theorem bracket_law {s:ByteArray} {n:No} (hz:s.size≤4000) (h:oh s=some (.ok n)):∃ P:Nat,n.to=(P:Int)∧P≤s.size∧∀ s':ByteArray,s'.data.toList=40 :: (s.data.toList.take P ++ [41])→oh s'=some (.error (5,0))∨∃ fr Fq n',oh s'=some (.ok (.mk 44 fr Fq ⟨#[]⟩ [n']))∧EN n n':=by
  obtain ⟨ts,s1,hs,g2,g3⟩:=vh h;obtain ⟨⟨j,bj⟩,g4,g5⟩:=J5 g2;obtain ⟨LP,-,hl,-⟩:=(jK hs).2.wt;have hf:=(expr_fin (i:=0) (b:=false) (lo:=0) LP (gr_fin LP ts.length 0) (Nat.le_refl 0) hl).2 n (j,bj) g4;simp only at hf g5;obtain ⟨Qy,WU,rfl⟩:=hf;have he:=Ph (Pf (ts:=ts) ts.length) (i:=0) false n (j,false) g4;simp only at he;obtain ⟨m,z,em,fz,hm,YM⟩:=(jK hs).2;have eN:ts.length=m.length+1:=by rw [em];simp
  have h7:∀ i,i<ts.length→(ap ts i).k=7→i=m.length:=by
    intro i hi hk;rcases Nat.lt_or_ge i m.length with h8 | h8
    · exfalso
      have h9:ap ts i=m[i]:=by
        rw [em];simp [ap,List.getElem?_append_left h8,List.getElem?_eq_getElem h8]
      exact hm m[i] (List.getElem_mem h8) (by rw [← h9];exact hk)
    · omega
  have hD:Dl (ap ts j):=g5.elim .inr fun h=>.inl h.1
  have yb:ts.length≤j+2:=by
    rcases g5 with h8 | ⟨h8,h9⟩
    · have:=h7 j WU h8;omega
    · have:=LP.nxt j WU (by rw [h8];decide)
      have:=h7 (j+1) this h9;omega
  obtain ⟨i,rfl⟩:∃ i,j=i+1:=⟨j - 1,by omega⟩;(have hi:i<ts.length:=by omega);have hx:ts[i]? = some ts[i]:=List.getElem?_eq_getElem hi;(have ht:ap ts i=ts[i]:=by simp [ap,hi]);obtain ⟨YV,RV⟩:=he;rw [Nat.add_sub_cancel,ht] at YV RV;obtain ⟨u,v,aP,q1,q2,-,-⟩:=tL (o7 hs).2.2 hx RV.1 RV.2
  have YB:u.length≤s.size:=by
    have:s.size=s.data.toList.length:=rfl;rw [this,q1];simp
  refine ⟨u.length,by rw [YV,q2],YB,fun s' DY=>?_⟩;clear q1 aP v;obtain ⟨aP,q3,q4⟩:=z7 hs (by omega) hx RV.1 RV.2 q2 DY
  have WO:aP.length=i+5:=by
    have:=congrArg List.length q4;simp [jE] at this;omega
  have hk:∀ a,kt (ap aP a)=(jE aP).getD a (7,⟨#[]⟩):=by
    intro a;unfold ap jE;rw [List.getD_eq_getElem?_getD,List.getD_eq_getElem?_getD,List.getElem?_map];cases aP[a]? <;> rfl
  (have fs:(jE (ts.take (i+1))).length=i+1:=by simp [jE];omega);have k0:kt (ap aP 0)=(5,⟨#[40]⟩):=by rw [hk,q4];rfl
  have kn:∀ a,a<i+1→kt (ap aP (a+1))=kt (ap ts a):=by
    intro a ha;rw [hk,q4,List.getD_eq_getElem?_getD,List.cons_append,List.getElem?_cons_succ,List.getElem?_append_left (by omega)]
    have e:(jE (ts.take (i+1)))[a]? = some (kt ts[a]):=by
      unfold jE;rw [List.getElem?_map,List.getElem?_take_of_lt ha,List.getElem?_eq_getElem (by omega)];rfl
    (have e2:ap ts a=ts[a]:=by simp [ap,show a<ts.length by omega]);rw [e,e2];rfl
  have ke:∀ a,kt (ap aP (i+2+a))=([(5,⟨#[41]⟩),(6,⟨#[10]⟩),(7,⟨#[]⟩)]:List (Int×ByteArray)).getD a (7,⟨#[]⟩):=by
    intro a;rw [hk,q4,List.getD_eq_getElem?_getD,List.cons_append,show i+2+a=i+1+a+1 by omega,List.getElem?_cons_succ,List.getElem?_append_right (by omega),fs,show i+1+a - (i+1)=a by omega,List.getD_eq_getElem?_getD]
  have t0:=ke 0;have t1:=ke 1;have t2:=ke 2;have f1:(ap aP (i+2)).k=5∧(ap aP (i+2)).tx=⟨#[41]⟩:=⟨congrArg Prod.fst t0,congrArg Prod.snd t0⟩;have f2:(ap aP (i+2+1)).k=6:=congrArg Prod.fst t1;have f3:(ap aP (i+2+2)).k=7:=congrArg Prod.fst t2
  have RU:∀ a,M0 (ap aP (i+2+a)):=by
    intro a
    match a with
    | 0=>exact .inr (.inr f1)
    | 1=>exact .inl f2
    | b+2=>
      have:=ke (b+2)
      have e:([(5,⟨#[41]⟩),(6,⟨#[10]⟩),(7,⟨#[]⟩)]:List (Int×ByteArray)).getD (b+2) (7,⟨#[]⟩)=(7,⟨#[]⟩):=by
        cases b <;> rfl
      rw [e] at this;exact .inr (.inl (congrArg Prod.fst this))
  have K:SK ts aP 1 (i+1):=by
    refine ⟨by omega,fun a ha=>?_,⟨hD,RU 0⟩,fun a b ha=>?_⟩
    · have:=kn a ha
      exact ⟨(congrArg Prod.fst this).symm,(congrArg Prod.snd this).symm⟩
    · rcases Nat.lt_or_ge (a+b) (i+1) with h8 | h8
      · have e1:min (a+b) (ts.length - 1)=a+b:=by omega
        (have e2:min (a+1+b) (aP.length - 1)=a+b+1:=by omega);rw [e1,e2];have:=kn (a+b) h8;exact .inl ⟨(congrArg Prod.fst this).symm,(congrArg Prod.snd this).symm⟩
      · have e2:∃ c,min (a+1+b) (aP.length - 1)=i+2+c:=⟨min (a+1+b) (aP.length - 1) - (i+2),by omega⟩
        obtain ⟨c,e2⟩:=e2;rw [e2];refine .inr ⟨?_,RU c⟩;(have e1:min (a+b) (ts.length - 1)=i+1∨(min (a+b) (ts.length - 1)=i+2∧ts.length=i+3):=by omega);rcases e1 with e1 | ⟨e1,e3⟩
        · rw [e1];exact hD
        · rw [e1]
          rcases g5 with h9 | ⟨-,h9⟩
          · have:=h7 (i+1) WU h9
            omega
          · exact .inr h9
  rcases iD (lo:=0) (m:=i+1) K (Nat.le_refl _) (Pb K ts.length (i+4) (by omega)) 0 false n (i+1,false) (Nat.le_refl _) (Nat.zero_le _) g4 with g6 | ⟨n',g6,g7⟩
  · simp only at g6;omega
  · obtain ⟨fr,Fq,g8⟩:=I1 (by omega) ⟨congrArg Prod.fst k0,congrArg Prod.snd k0⟩ g6 f1 f2 f3
    have g9:(fun ts=>ky ts (dM ts (gr ts ts.length))) aP (0,false)=some (.ok (.mk 44 fr Fq ⟨#[]⟩ [n'],(i+2+2,false))):=by
      show ky aP (dM aP (gr aP aP.length)) (0,false)=_
      rw [WO];exact g8
    have:=Bq (x:=fun ts=>ky ts (dM ts (gr ts ts.length))) q3 g9;unfold oh;rw [this];split
    · exact .inl rfl
    · exact .inr ⟨fr,Fq,n',rfl,g7⟩
set_option maxRecDepth 100000
set_option maxHeartbeats 4000000
theorem EL.at:∀ {l l':List No} (_:EL l l') (j:Nat) (h:j<l.length) (h':j<l'.length),EN l[j] l'[j]
  | _ :: _,_ :: _,h,0,_,_=>h.inv.1
  | _ :: l,_ :: l',h,j+1,h1,h2=>EL.at (l:=l) (l':=l') h.inv.2 j (by simpa using h1) (by simpa using h2)
  | [],_,_,_,h1,_=>by simp at h1
  | _,[],_,_,_,h2=>by simp at h2
theorem IL (N:Nat):∀ (n n':No) (cs ds:List Value) (w:World),SizeOf.sizeOf n<N→bG w (fun b=>b<w.heap.size) n cs→bG w (fun b=>b<w.heap.size) n' ds→EN n n'→
    Calls prog 14 #[.agg cs.toArray,.agg ds.toArray] w fun e w'=>e = .returned (.bool true)∧Below w.heap.size w w':=by
  induction N with
  | zero=>intro n n' cs ds w h;exact absurd h (by omega)
  | succ N ih=>
    intro n n' cs ds w hN hr OO hE;obtain ⟨A1,c1,rfl,OW⟩:=hr.forms;obtain ⟨A2,c2,rfl,Ry⟩:=OO.forms;obtain ⟨k,lo,hi,tx,ks⟩:=n;obtain ⟨k',BA,yd,Ql,FK⟩:=n';obtain ⟨e1,e2,e3⟩:=hE.inv;simp only [No.k,No.fr,No.to,No.tx,No.ks] at *;subst e1 e2;have hl:=e3.len;(have eN:ks.length≤maxLen:=by obtain ⟨xs,⟨-,A2,cap,hv,h1,h2,-⟩,-⟩:=OW;cases hv;exact Nat.le_trans h1 h2);(have eN:ks.length≤9223372036854775807:=by unfold maxLen at eN;omega);have HKR:=zh OW;have Yd:=zh Ry;have IH:=zh ih;have N_:=zh hN;have HE:=zh e3;have HL:=zh hl;rw [← hl];clear OW ih hr hN Ry OO hE e3 hl;go_enter func14,ntmps14;go_wp2_with fail
    (try go_step3)
    go_wp2_with fail
    go_loopg [5] ks.length (fun m i wr=>∃ j:Nat,m=ks.length - j∧j≤ks.length∧i = .int .i64 j∧Hd (Below w.heap.size w wr)∧w.heap.size+2≤wr.heap.size∧wr.cell? ⟨w.heap.size,4,none⟩=some (.slice A1 ks.length c1)∧wr.cell? ⟨w.heap.size+1,4,none⟩=some (.slice A2 ks.length c2))
    case atStart=>exact ⟨0,by simp,by omega,rfl,zh (((Below.refl _ _).alloc (Nat.le_refl _) _).alloc (by simp) _),by simp,by go_simp,by go_simp⟩
    case round=>
      obtain ⟨j,rfl,hj,rfl,HB,hz,R2,RZ⟩:=hrel;by_cases fs:j<ks.length
      · have Rv:j<FK.length:=by have:=HL.o;omega
        have hr:=HKR.o.keep (aI.of_below HB.o fun b h=>h) (fun _ h=>h);have OO:=Yd.o.keep (aI.of_below HB.o fun b h=>h) (fun _ h=>h);obtain ⟨g,o,cap,B,c,hv,FQ,q0,q1,q2,q3,q4,BM⟩:=hr.cellsD fs;obtain ⟨g',o',cap',B',c9,Yz,Xj,r0,r1,r2,r3,r4,Np⟩:=OO.cellsD Rv;cases hv;rw [← HL.o] at Yz;cases Yz;have sE:g<w.heap.size:=FQ;have hgl':g'<w.heap.size:=Xj
        have OJ:SizeOf.sizeOf ks[j]<N:=by
          have h1:=N_.o;have h2:=List.sizeOf_lt_of_mem (List.getElem_mem fs);simp only [No.mk.sizeOf_spec] at h1;omega
        have U2:=HE.o.at j fs Rv;have Uh:=zh BM;have Of:=zh Np;obtain ⟨y,hy⟩:∃ y,ks[j]=y:=⟨_,rfl⟩;obtain ⟨y',Yy⟩:∃ y',FK[j]=y':=⟨_,rfl⟩;rw [hy] at q0 q1 q2 q3 q4 Uh OJ U2;rw [Yy] at r0 r1 r2 r3 r4 Of U2;have HEJ:=zh U2;have HSJ:=zh OJ;(have Nr:(j:Int)<(ks.length:Int):=by omega);clear hy BM hr Yy Np OO U2 OJ;go_wp2_with fail;refine wp_region_held_drew (S:=(fun w'=>w'.cell? ⟨w.heap.size,4,none⟩=some (.slice (some ⟨g,o,none⟩) ks.length c1)∧w'.cell? ⟨w.heap.size+1,4,none⟩=some (.slice (some ⟨g',o',none⟩) ks.length c2)∧w'.cell? ⟨g,o+j * 5,none⟩=some (.int .i64 y.k)∧w'.cell? ⟨g,o+j * 5+1,none⟩=some (.int .i64 y.fr)∧w'.cell? ⟨g,o+j * 5+2,none⟩=some (.int .i64 y.to)∧w'.cell? ⟨g,o+j * 5+3,none⟩=some (.string y.tx)∧w'.cell? ⟨g,o+j * 5+4,none⟩=some (.slice B y.ks.length c)∧w'.cell? ⟨g',o'+j * 5,none⟩=some (.int .i64 y'.k)∧w'.cell? ⟨g',o'+j * 5+1,none⟩=some (.int .i64 y'.fr)∧w'.cell? ⟨g',o'+j * 5+2,none⟩=some (.int .i64 y'.to)∧w'.cell? ⟨g',o'+j * 5+3,none⟩=some (.string y'.tx)∧w'.cell? ⟨g',o'+j * 5+4,none⟩=some (.slice B' y'.ks.length c9))) (by kernel_rfl) (by exact ⟨R2,RZ,q0,q1,q2,q3,q4,r0,r1,r2,r3,r4⟩) (fun ac=>?_);refine bw ?_ ac;clear ac;rintro w4 hb ac;refine aK 12 (by kernel_rfl) (fun aF=>?_);have bu:Hd (Below w.heap.size w w4):=zh (HB.o.trans (hb.mono HB.o.size));have Z':=zh hb;have iV:=hb.size;have LN:=HB.o.size;clear hb R2 RZ q0 q1 q2 q3 q4 r0 r1 r2 r3 r4;(iterate 10 (refine ao (v:=?_) aF (by decide) (fun _ _ _ h=>h) (Or.inl ⟨by rfl,?_⟩) (by assumption) ?_;rotate_left;(intro W aH;(try dsimp only [ze] at aH);go_simp;first | done | rfl);try simp only [Act.put,cr,cj,ch,UC,UB,VB]));refine fa (by kernel_rfl) (fun K hK=>?_);go_simp
        go_at_call 14
        refine (IH.o y y' [.int .i64 y.k,.int .i64 y.fr,.int .i64 y.to,.string y.tx,.slice B y.ks.length c] [.int .i64 y'.k,.int .i64 y'.fr,.int .i64 y'.to,.string y'.tx,.slice B' y'.ks.length c9] w4 HSJ.o (Uh.o.keep (aI.of_below Z'.o fun b h=>by omega) fun b h=>by omega) (Of.o.keep (aI.of_below Z'.o fun b h=>by omega) fun b h=>by omega) HEJ.o).mono ?_;rintro e w5 ⟨rfl,dz⟩;have a8:Hd (Below w.heap.size w w5):=zh (bu.o.trans (dz.mono (by omega)));have jY:=dz.size;obtain ⟨m0,m1,m2,m3,m4,m5,m6,m7,m8,m9,Yt,Ys⟩:=ac;refine hK.out _ _ (by exact ⟨(dz.cell (p:=⟨w.heap.size,4,none⟩) (by show w.heap.size<_;omega)).trans m0,(dz.cell (p:=⟨w.heap.size+1,4,none⟩) (by show w.heap.size+1<_;omega)).trans m1,(dz.cell (p:=⟨g,o+j * 5,none⟩) (by show g<_;omega)).trans m2,(dz.cell (p:=⟨g,o+j * 5+1,none⟩) (by show g<_;omega)).trans m3,(dz.cell (p:=⟨g,o+j * 5+2,none⟩) (by show g<_;omega)).trans m4,(dz.cell (p:=⟨g,o+j * 5+3,none⟩) (by show g<_;omega)).trans m5,(dz.cell (p:=⟨g,o+j * 5+4,none⟩) (by show g<_;omega)).trans m6,(dz.cell (p:=⟨g',o'+j * 5,none⟩) (by show g'<_;omega)).trans m7,(dz.cell (p:=⟨g',o'+j * 5+1,none⟩) (by show g'<_;omega)).trans m8,(dz.cell (p:=⟨g',o'+j * 5+2,none⟩) (by show g'<_;omega)).trans m9,(dz.cell (p:=⟨g',o'+j * 5+3,none⟩) (by show g'<_;omega)).trans Yt,(dz.cell (p:=⟨g',o'+j * 5+4,none⟩) (by show g'<_;omega)).trans Ys⟩) (fun ac=>?_);clear hK K dz m0 m1 m2 m3 m4 m5 m6 m7 m8 m9 Yt Ys;(try simp only [Act.put,cr,cj,ch,UC,UB,VB]);obtain ⟨k4,k5,-⟩:=id ac
        (refine ao (v:=?_) aF (by decide) (fun _ _ _ h=>h) (Or.inl ⟨by rfl,?_⟩) (by assumption) ?_;rotate_left;(intro W aH;(try dsimp only [ze] at aH);go_simp;first | done | rfl);try simp only [Act.put,cr,cj,ch,UC,UB,VB])
        refine bz ?_;clear aF;clear ac;go_wp2_with fail
        go_roundg (ks.length - (j+1))
        case measure=>omega
        case rel=>exact ⟨j+1,rfl,by omega,by go_num,a8,by omega,k4,k5⟩
      · obtain rfl:j=ks.length:=by omega
        go_wp2_with fail;go_ret;exact ⟨rfl,HB.o⟩
theorem Dq {n n':No} {cs ds:List Value} {w:World} (h:bG w (fun b=>b<w.heap.size) n cs) (h':bG w (fun b=>b<w.heap.size) n' ds) (hE:EN n n') :
    Calls prog 14 #[.agg cs.toArray,.agg ds.toArray] w fun e w'=>e = .returned (.bool true)∧Below w.heap.size w w':=IL _ n n' cs ds w (Nat.lt_succ_self _) h h' hE
set_option maxRecDepth 100000
set_option maxHeartbeats 4000000
def Va:ByteArray:=⟨#[45,97,32,42,32,98,32,61,61,32,99,32,124,124,32,100]⟩
def SB:Option (Except (Int×Int) No)→Bool
  | some (.ok n)=>decide (n.k=52) && decide (n.tx=⟨#[124,124]⟩) && decide (n.to=16) && (match n.ks with | [a,_]=>decide (a.tx=⟨#[61,61]⟩) | _=>false)
  | _=>false
theorem SA:SB (oh Va)=true:=by decide +kernel
theorem Ms:∃ (n:No) (a b:No),oh Va=some (.ok n)∧n.k=52∧n.tx=⟨#[124,124]⟩∧n.to=16∧n.ks=[a,b]∧a.tx=⟨#[61,61]⟩:=by
  have h:=SA
  generalize oh Va=r at h ⊢
  unfold SB at h;split at h
  · rename_i n
    simp only [Bool.and_eq_true,decide_eq_true_eq] at h;obtain ⟨⟨⟨h1,h2⟩,h3⟩,h4⟩:=h;split at h4
    · rename_i a b hk
      exact ⟨n,a,b,rfl,h1,h2,h3,hk,by simpa using h4⟩
    · cases h4
  · cases h
section
variable {w:World}
theorem Cw (hT:Lib.Utf8Tabs 0 1 w) (h3:3≤w.heap.size) {mm:Int} (n_:w.cell? ⟨2,0,none⟩=some (.int .i64 mm)) :
    Calls prog 9 #[] w fun e w'=>e = .returned (.bool true)∧Below w.heap.size w w':=by
  obtain ⟨n,a,b,hv,h1,h2,Zi,h4,h5⟩:=Ms;have HT:=zh hT;have Ay:=zh n_;have HV:=zh hv;clear hT n_ hv;go_enter func9,ntmps9;go_wp2_with fail;refine (AQ (s:=Va) (by decide) HT.o h3 Ay.o HV.o).mono ?_;rintro e w1 ⟨cB,A',c',rfl,ae⟩;obtain ⟨nk,nf,nt,Qm,M_⟩:=n;simp only [No.k,No.fr,No.to,No.tx,No.ks] at h1 h2 Zi h4 ae ⊢;subst h1 h2 Zi h4;obtain ⟨xs,⟨Wt,A2,cap,hv2,OT,hle2,-,Rh⟩,hN⟩:=ae;cases hv2;obtain ⟨bb,oo,rfl,hS,Nu⟩:=Rh (by simp);simp only [aC] at hN;obtain ⟨c1,c2,rfl,Za,-⟩:=hN;obtain ⟨A3,c3,rfl,-⟩:=Za.forms;have q3:=Nu 3 (.string a.tx) (by simp);rw [h5] at q3;have wO:bb<w1.heap.size:=hS.2;(have hk:2≤c':=by simpa using OT);have HB:=zh cB;clear Nu Za Rh hS cB Wt;go_wp2_with fail;go_ret;exact ⟨rfl,(HB.o.alloc (by have:=HB.o.size;omega) _).alloc (by have:=HB.o.size;simp;omega) _⟩
end
set_option maxRecDepth 100000
set_option maxHeartbeats 8000000
section
variable {w w':World} {base g at_:Nat} {s:ByteArray} {l:List Tk}
theorem ey.cellF (h:ey base w g s at_ l):w.cell? ⟨g,4,none⟩=some (.int .i64 0)∧w.cell? ⟨g,5,none⟩=some (.string ⟨#[]⟩)∧w.cell? ⟨g,6,none⟩=some (.int .i64 0):=by
  obtain ⟨A,c,R,m,d,xs,hm⟩:=h;have q4:=hm.blk.cell 4;have q5:=hm.blk.cell 5;have q6:=hm.blk.cell 6;simp at q4 q5 q6;exact ⟨q4,q5,q6⟩
theorem rQ {s:ByteArray} {p:Nat} {x y:UInt8} {t:List UInt8} (hp:p<s.size) (hd:s.data.toList.drop p=x :: t) (h0:y≠0):qv s p ⟨#[47,y]⟩=true↔x=47∧t.headD 0=y:=by
  rw [nj (by omega),hd];have h1:(⟨#[47,y]⟩:ByteArray).size=2:=rfl;have h2:(⟨#[47,y]⟩:ByteArray).data.toList=[47,y]:=rfl;rw [h1,h2];cases t with
  | nil=>simp;intro _ e;exact h0 e.symm
  | cons z t=>simp
theorem vs {x:UInt8} {t:List UInt8}:d8 x.toNat=true↔0<dq (x :: t):=by
  rw [gE]
  show ly x=true↔_
  split
  · rename_i h
    exact ⟨fun _=>by omega,fun _=>h⟩
  · rename_i h
    exact ⟨fun h1=>absurd h1 h,fun h1=>by omega⟩
theorem Bf {ts:List Tk} (hg:w.heap.size=g) (hs:s.size≤65536) (hv:gp s s.size 0=true) (hr:aX (s.size+1) s.data.toList 0 [] = .ok ts) :
    Calls prog 27 #[.string s] w fun e w'=>∃ q,e = .returned (.pointer (some ⟨g,0,none⟩))∧ey g w' g s q ts∧Below g w w':=by
  have HR:=zh hr;have P9:=zh hv;(have uE:(s.size:Int)≤65536:=by omega);have eN:s.data.toList.length=s.size:=lD s;have qN:Hd (ey w.heap.size (w.alloc (.cells #[.string s,.int .i64 0,.slice none 0 0,.slice none 0 0,.int .i64 0,.string ⟨#[]⟩,.int .i64 0] 59)) w.heap.size s 0 []):=zh ⟨none,0,none,0,0,[],aj.new _ _ _,World.ownsRow_nil _ _ _ _,World.ownsRow_nil _ _ _ _,Nat.le_refl _,Nat.le_refl _⟩;have cT:Hd (Below w.heap.size w (w.alloc (.cells #[.string s,.int .i64 0,.slice none 0 0,.slice none 0 0,.int .i64 0,.string ⟨#[]⟩,.int .i64 0] 59))):=zh ((Below.refl _ _).alloc (Nat.le_refl _) _);have HG:=zh hg;(have AF:g≤w.heap.size:=by omega);have Vt:=zh AF;clear hr hv hg AF;go_enter func27,ntmps27;go_wp2_with fail;refine (kX (by omega)).mono ?_;rintro e w1 ⟨rfl,hw⟩;subst w1;rw [P9.o];obtain ⟨W0,sG⟩:∃ W0,w.alloc (.cells #[.string s,.int .i64 0,.slice none 0 0,.slice none 0 0,.int .i64 0,.string ⟨#[]⟩,.int .i64 0] 59)=W0:=⟨_,rfl⟩;rw [sG] at qN cT;rw [sG];rw [HG.o] at qN cT;(try rw [HG.o]);have L8:g<W0.heap.size:=qN.o.cells.2.2.2.1;obtain ⟨q0,q1,qf,ql,sF⟩:=qN.o.cells;clear sG P9;go_wp2_with fail
  (try go_step3)
  go_wp2_with fail
  go_loopg [] (s.size+1) (fun f wr=>∃ (p:Nat) (l:List Tk),s.size+1≤f+p∧p≤s.size∧l.length≤p∧Hd (ey g wr g s p l)∧Hd (Below g w wr)∧Hd (aX f (s.data.toList.drop p) p l = .ok ts))
  case atStart=>exact ⟨0,[],Nat.le_refl _,Nat.zero_le _,Nat.le_refl _,qN,cT,HR⟩
  case round=>
    obtain ⟨p,l,RS,cq,YN,HS,HB,HT⟩:=hrel;(try rename World=>wr);clear q0 q1 qf ql sF;obtain ⟨q0,q1,qf,ql,sF⟩:=HS.o.cells;obtain ⟨q4,-,-⟩:=HS.o.cellF;clear qN cT HR L8;have Y1:=HB.o.size;have AF:=Vt.o;(have Ef:g≤wr.heap.size:=by omega);cases gk with
    | zero=>exact absurd RS (by omega)
    | succ f=>
      (have D5:(p:Int)≤(s.size:Int):=by omega);by_cases hp:p<s.size
      case neg=>
        obtain rfl:p=s.size:=by omega
        have LU:bB s.size l ++ [⟨7,s.size,s.size,⟨#[]⟩⟩]=ts:=by
          have h1:=HT.o;rw [List.drop_eq_nil_of_le (by omega)] at h1;exact Except.ok.inj h1
        have TZ:=zh LU;have tB:=fE (s.size:Int) l;clear LU HT;go_wp2_with fail;refine (j' (base:=g) HS.o (by omega) Ef).mono ?_;rintro e w4 ⟨rfl,rD,dB⟩;have iW:=zh rD;have bu:=zh (HB.o.trans dB);clear rD dB q0 q1 qf ql q4;obtain ⟨q0,q1,qf,ql,-⟩:=iW.o.cells;obtain ⟨q4,-,-⟩:=iW.o.cellF;go_wp2_with fail;refine (dR (base:=g) iW.o (by omega)).mono ?_;rintro e w5 ⟨rfl,fu,dz⟩;have dI:=zh fu;have a8:=zh (bu.o.trans dz);clear fu dz;go_wp2_with fail;go_ret;exact ⟨_,rfl,by rw [← TZ.o];exact dI.o,a8.o⟩
      case pos=>
        obtain ⟨x,hx⟩:∃ x,s[p]=x:=⟨_,rfl⟩;(have fs:(p:Int)<(s.size:Int):=by omega);obtain ⟨t,ht⟩:∃ t,s.data.toList.drop (p+1)=t:=⟨_,rfl⟩
        have d9:s.data.toList.drop p=x :: t:=by
          rw [List.drop_eq_getElem_cons (by omega),Array.getElem_toList,ht];exact congrArg (· :: t) hx
        have HX:=zh hx;have mJ:=zh d9;have Fi:=zh ht;rw [d9] at HT
        have GO:t.length+1+p=s.size:=by
          have h1:=congrArg List.length d9;rw [List.length_drop,eN,List.length_cons] at h1;omega
        have yD:Hd (∀ k,(x :: t).drop k=s.data.toList.drop (p+k)):=zh (fun k=>by rw [← d9,List.drop_drop]);clear ht d9;by_cases oa:x=10
        case pos=>
          subst oa;have fH:Hd (aX f t (p+1) (bB p l) = .ok ts):=zh (by have h1:=HT.o;unfold aX at h1;rw [if_pos rfl] at h1;exact h1);clear HT;have tB:=fE (p:Int) l;(have r_:(p:Int)+1≤(s.size:Int):=by omega);go_wp2_with fail;refine (j' (base:=g) HS.o (by omega) Ef).mono ?_;rintro e w4 ⟨rfl,rD,dB⟩;have iW:=zh rD;have bu:=zh (HB.o.trans dB);clear rD dB q0 q1 qf ql q4;obtain ⟨q0,q1,qf,ql,-⟩:=iW.o.cells;have dI:Hd (ey g (w4.setCell ⟨g,1,none⟩ (.int .i64 (p+1))) g s (p+1) (bB p l)):=zh (by have h9:=iW.o.to_ (p:=p+1) (by omega);simpa using h9);have a8:Hd (Below g w (w4.setCell ⟨g,1,none⟩ (.int .i64 (p+1)))):=zh (bu.o.setCell sF _);go_wp2_with fail
          go_roundg f
          case measure=>omega
          case rel=>exact ⟨p+1,_,by omega,by omega,by omega,dI,a8,zh (by rw [Fi.o];exact fH.o)⟩
        case neg=>
        have f10:((x.toNat:Int) == 10)=false:=du oa;by_cases r9:x=32∨x=9∨x=13
        case pos=>
          have fH:Hd (aX f t (p+1) l = .ok ts):=zh (by have h1:=HT.o;unfold aX at h1;rw [if_neg oa,if_pos r9] at h1;exact h1);clear HT;(have r_:(p:Int)+1≤(s.size:Int):=by omega);have dI:Hd (ey g (wr.setCell ⟨g,1,none⟩ (.int .i64 (p+1))) g s (p+1) l):=zh (by have h9:=HS.o.to_ (p:=p+1) (by omega);simpa using h9);have a8:Hd (Below g w (wr.setCell ⟨g,1,none⟩ (.int .i64 (p+1)))):=zh (HB.o.setCell sF _);rcases r9 with rfl | rfl | rfl
          all_goals
            go_wp2_with fail
            go_roundg f
            case measure=>omega
            case rel=>exact ⟨p+1,l,by omega,by omega,by omega,dI,a8,zh (by rw [Fi.o];exact fH.o)⟩
        case neg=>
        have f32:((x.toNat:Int) == 32)=false:=du fun e=>r9 (.inl e);have f9:((x.toNat:Int) == 9)=false:=du fun e=>r9 (.inr (.inl e));have f13:((x.toNat:Int) == 13)=false:=du fun e=>r9 (.inr (.inr e));have KU:=zh r9;have K1:=zh oa;clear oa r9;go_wp2_with fail;refine (eU (t:=⟨#[47,47]⟩) HS.o cq (by omega) (by decide)).mono ?_;rintro e w2 ⟨rfl,cK⟩;have fh:=zh (HS.o.below cK);have aE:=zh (HB.o.trans (cK.mono Ef));(have JF:g≤w2.heap.size:=by have h9:=cK.size;omega);clear cK q0 q1 qf ql q4;by_cases AG:qv s p ⟨#[47,47]⟩=true
        case pos=>
          (have hc:x=47∧(t.headD 0=47∨t.headD 0=42):=by have h1:=(rQ hp mJ.o (by decide)).1 AG;exact ⟨h1.1,.inl h1.2⟩);have HC:=zh hc;clear hc;have mL:Hd ((match dK (x :: t) with | none=>Except.error (p:Int) | some n=>aX f ((x :: t).drop n) (p+n) (if 0≤Lib.indexByte ((x :: t).take n) 10 then bB p l else l)) = .ok ts):=zh (by have h1:=HT.o;unfold aX at h1;rw [if_neg K1.o,if_neg KU.o,if_pos HC.o] at h1;exact h1);clear HT
          obtain ⟨n,ia⟩:∃ n,dK (x :: t)=some n:=by
            cases ia:dK (x :: t) with
            | none=>have h1:=mL.o;rw [ia] at h1;cases h1
            | some n=>exact ⟨n,rfl⟩
          have xK:Hd (dK (s.data.toList.drop p)=some n):=zh (by rw [mJ.o];exact ia);have fH:Hd (aX f (s.data.toList.drop (p+n)) (p+n) (if 0≤Lib.indexByte ((s.data.toList.drop p).take n) 10 then bB p l else l) = .ok ts):=zh (by have h1:=mL.o;rw [ia] at h1;simp only at h1;rw [yD.o] at h1;rw [mJ.o];exact h1);clear mL;have tB:=fE (p:Int) l;obtain ⟨AE,fT⟩:=lF ia ⟨t,by rw [HC.o.1]⟩;simp only [List.length_cons] at fT;have Ib:=zh AG;obtain ⟨l2,kB⟩:∃ l2,(if 0≤Lib.indexByte ((s.data.toList.drop p).take n) 10 then bB p l else l)=l2:=⟨_,rfl⟩;(have OU:l2.length≤l.length+1:=by rw [← kB];split <;> omega);rw [kB] at fH;have AA:=zh kB;clear ia kB;have wQ:=0;clear wQ;rw [AG];clear AG;(have jM:p+2≤s.size:=by obtain ⟨h9,-,-⟩:=(lj cq).1 Ib.o;omega);go_wp2_with fail;refine (tq (base:=g) rfl fh.o (by omega) JF hs (by omega) Ib.o xK.o).mono ?_;rw [AA.o];rintro e w5 ⟨rfl,fu,dz⟩;have dI:=zh fu;have a8:=zh (aE.o.trans dz);clear fu dz;go_wp2_with fail
          go_roundg f
          case measure=>omega
          case rel=>exact ⟨p+n,l2,by omega,by omega,by omega,dI,a8,zh fH.o⟩
        case neg=>
        rw [Bool.eq_false_iff.2 AG];go_wp2_with fail;refine (eU (t:=⟨#[47,42]⟩) fh.o cq (by omega) (by decide)).mono ?_;rintro e w3 ⟨rfl,jG⟩;have p8:=zh (fh.o.below jG);have be:=zh (aE.o.trans (jG.mono JF));(have l5:g≤w3.heap.size:=by have h9:=jG.size;omega);clear jG;by_cases wQ:qv s p ⟨#[47,42]⟩=true
        case pos=>
          clear AG;(have hc:x=47∧(t.headD 0=47∨t.headD 0=42):=by have h1:=(rQ hp mJ.o (by decide)).1 wQ;exact ⟨h1.1,.inr h1.2⟩);have HC:=zh hc;clear hc;have mL:Hd ((match dK (x :: t) with | none=>Except.error (p:Int) | some n=>aX f ((x :: t).drop n) (p+n) (if 0≤Lib.indexByte ((x :: t).take n) 10 then bB p l else l)) = .ok ts):=zh (by have h1:=HT.o;unfold aX at h1;rw [if_neg K1.o,if_neg KU.o,if_pos HC.o] at h1;exact h1);clear HT
          obtain ⟨n,ia⟩:∃ n,dK (x :: t)=some n:=by
            cases ia:dK (x :: t) with
            | none=>have h1:=mL.o;rw [ia] at h1;cases h1
            | some n=>exact ⟨n,rfl⟩
          have xK:Hd (dK (s.data.toList.drop p)=some n):=zh (by rw [mJ.o];exact ia);have fH:Hd (aX f (s.data.toList.drop (p+n)) (p+n) (if 0≤Lib.indexByte ((s.data.toList.drop p).take n) 10 then bB p l else l) = .ok ts):=zh (by have h1:=mL.o;rw [ia] at h1;simp only at h1;rw [yD.o] at h1;rw [mJ.o];exact h1);clear mL;have tB:=fE (p:Int) l;obtain ⟨AE,fT⟩:=lF ia ⟨t,by rw [HC.o.1]⟩;simp only [List.length_cons] at fT;have Ib:=zh wQ;obtain ⟨l2,kB⟩:∃ l2,(if 0≤Lib.indexByte ((s.data.toList.drop p).take n) 10 then bB p l else l)=l2:=⟨_,rfl⟩;(have OU:l2.length≤l.length+1:=by rw [← kB];split <;> omega);rw [kB] at fH;have AA:=zh kB;clear ia kB;rw [wQ];clear wQ;(have jM:p+2≤s.size:=by obtain ⟨h9,-,-⟩:=(lj cq).1 Ib.o;omega);go_wp2_with fail;refine (tn (base:=g) rfl p8.o (by omega) l5 hs Ib.o cq xK.o).mono ?_;rw [AA.o];rintro e w5 ⟨rfl,fu,dz⟩;have dI:=zh fu;have a8:=zh (be.o.trans dz);clear fu dz;go_wp2_with fail
          go_roundg f
          case measure=>omega
          case rel=>exact ⟨p+n,l2,by omega,by omega,by omega,dI,a8,zh fH.o⟩
        case neg=>
        have HC:Hd (¬ (x=47∧(t.headD 0=47∨t.headD 0=42))):=zh (fun h=>h.2.elim (fun e=>AG ((rQ hp mJ.o (by decide)).2 ⟨h.1,e⟩)) (fun e=>wQ ((rQ hp mJ.o (by decide)).2 ⟨h.1,e⟩)));rw [Bool.eq_false_iff.2 wQ];clear AG wQ;obtain ⟨n,hn⟩:∃ n,dq (x :: t)=n:=⟨_,rfl⟩;(have Jt:n≤t.length+1:=by have h1:=kZ (l:=x :: t);rw [hn] at h1;simpa using h1);have ud:=vs (x:=x) (t:=t);rw [hn] at ud;have mL:Hd ((if 60<n then Except.error (p:Int) else if 0<n then aX f ((x :: t).drop n) (p+n) (l ++ [⟨if j7 (bs ((x :: t).take n))=true then 4 else 1,p,p+n,bs ((x :: t).take n)⟩]) else if dZ x=true then (match gl (x :: t) with | none=>.error (p:Int) | some n=>aX f ((x :: t).drop n) (p+n) (l ++ [⟨2,p,p+n,bs ((x :: t).take n)⟩])) else if x=34 then (match bP p t (p+1) [] with | .error e=>.error e | .ok (q,tx)=>aX f ((x :: t).drop (q - p)) q (l ++ [⟨3,p,q,bs tx⟩])) else if x=59 then aX f t (p+1) (l ++ [⟨6,p,p+1,⟨#[59]⟩⟩]) else if ce (bs (x :: t))=0 then .error (p:Int) else aX f ((x :: t).drop (ce (bs (x :: t)))) (p+ce (bs (x :: t))) (l ++ [⟨5,p,p+ce (bs (x :: t)),bs ((x :: t).take (ce (bs (x :: t))))⟩])) = .ok ts):=zh (by have h1:=HT.o;unfold aX at h1;rw [if_neg K1.o,if_neg KU.o,if_neg HC.o,hn] at h1;exact h1);have HN:Hd (dq (s.data.toList.drop p)=n):=zh (by rw [mJ.o];exact hn);clear HT hn
        have JM:n≤60:=by
          rcases Nat.lt_or_ge 60 n with h | h
          · have h1:=mL.o;rw [if_pos h] at h1;cases h1
          · exact h
        have kp:=zh mL.o;rw [if_neg (by omega)] at kp;clear mL;go_wp2_with fail;refine cO.mono ?_;rintro e w1 ⟨rfl,hw⟩;subst w1;by_cases my:d8 x.toNat=true
        case pos=>
          have D7:=ud.1 my;rw [if_pos D7] at kp;rw [my];clear my ud;go_wp2_with fail;refine (tw (base:=g) rfl p8.o (by omega) l5 (by omega) HN.o D7 JM).mono ?_;rintro e w5 ⟨rfl,fu,dz⟩;have dI:=zh fu;have a8:=zh (be.o.trans dz);clear fu dz;go_wp2_with fail
          go_roundg f
          case measure=>omega
          case rel=>exact ⟨p+n,_,by omega,by omega,(by simp;omega),dI,a8,zh (by have h1:=kp.o;rw [yD.o] at h1;rw [mJ.o];exact h1)⟩
        case neg=>
        rw [Bool.eq_false_iff.2 my];rw [if_neg (fun h=>my (ud.2 h))] at kp;clear my ud Jt JM;go_wp2_with fail;refine dW.mono ?_;rintro e w1 ⟨rfl,hw⟩;subst w1;by_cases pe:gd x.toNat=true
        case pos=>
          rw [pe];rw [if_pos (show dZ x=true from pe)] at kp
          obtain ⟨k,ia⟩:∃ k,gl (x :: t)=some k:=by
            cases ia:gl (x :: t) with
            | none=>have h1:=kp.o;rw [ia] at h1;cases h1
            | some k=>exact ⟨k,rfl⟩
          have xK:Hd (gl (s.data.toList.drop p)=some k):=zh (by rw [mJ.o];exact ia);obtain ⟨AE,fT⟩:=rj ia pe;simp only [List.length_cons] at fT;have fH:Hd (aX f (s.data.toList.drop (p+k)) (p+k) (l ++ [⟨2,p,p+k,bs ((s.data.toList.drop p).take k)⟩]) = .ok ts):=zh (by have h1:=kp.o;rw [ia] at h1;simp only at h1;rw [yD.o] at h1;rw [mJ.o];exact h1);clear kp ia pe;go_wp2_with fail;refine (pP (base:=g) rfl p8.o (by omega) l5 (by omega) xK.o AE).mono ?_;rintro e w5 ⟨rfl,fu,dz⟩;have dI:=zh fu;have a8:=zh (be.o.trans dz);clear fu dz;go_wp2_with fail
          go_roundg f
          case measure=>omega
          case rel=>exact ⟨p+k,_,by omega,by omega,(by simp;omega),dI,a8,zh (by simpa using fH.o)⟩
        case neg=>
        rw [Bool.eq_false_iff.2 pe];rw [if_neg (show ¬ dZ x=true from pe)] at kp;clear pe;by_cases sc:x=34
        case pos=>
          subst sc;rw [if_pos rfl] at kp
          obtain ⟨q,tx,ia⟩:∃ q tx,bP p t (p+1) [] = .ok (q,tx):=by
            cases ia:bP p t (p+1) [] with
            | error e=>have h1:=kp.o;rw [ia] at h1;cases h1
            | ok qt=>exact ⟨qt.1,qt.2,rfl⟩
          obtain ⟨AE,fT⟩:=dE _ _ _ ia;have xK:Hd (bP p (s.data.toList.drop (p+1)) (p+1) [] = .ok (q,tx)):=zh (by rw [Fi.o];exact ia);have fH:Hd (aX f (s.data.toList.drop q) q (l ++ [⟨3,p,q,bs tx⟩]) = .ok ts):=zh (by have h1:=kp.o;rw [ia] at h1;simp only at h1;rw [yD.o,show p+(q - p)=q from by omega] at h1;exact h1);clear kp ia;go_wp2_with fail;refine (td (base:=g) p8.o (by omega) hs hp l5 xK.o).mono ?_;rintro e w5 ⟨rfl,fu,dz⟩;have dI:=zh fu;have a8:=zh (be.o.trans dz);clear fu dz;go_wp2_with fail
          go_roundg f
          case measure=>omega
          case rel=>exact ⟨q,_,by omega,by omega,(by simp;omega),dI,a8,zh fH.o⟩
        case neg=>
        have Sj:((x.toNat:Int) == 34)=false:=du sc;rw [if_neg sc] at kp;by_cases FT:x=59
        case pos=>
          have fH:Hd (aX f (s.data.toList.drop (p+1)) (p+1) (l ++ [⟨6,p,p+1,⟨#[59]⟩⟩]) = .ok ts):=zh (by have h1:=kp.o;rw [if_pos FT] at h1;rw [Fi.o];exact h1);clear kp;go_wp2_with fail;refine (tm (base:=g) rfl p8.o (by omega) l5 (by omega) hp (by rw [HX.o];exact FT)).mono ?_;rintro e w5 ⟨rfl,fu,dz⟩;have dI:=zh fu;have a8:=zh (be.o.trans dz);clear fu dz;go_wp2_with fail
          go_roundg f
          case measure=>omega
          case rel=>exact ⟨p+1,_,by omega,by omega,(by simp;omega),dI,a8,zh (by simpa using fH.o)⟩
        case neg=>
        rw [if_neg FT] at kp;obtain ⟨k,hk⟩:∃ k,ce (bs (x :: t))=k:=⟨_,rfl⟩;rw [hk] at kp
        have vA:k≠0:=by
          rintro rfl;have h1:=kp.o;rw [if_pos rfl] at h1;cases h1
        have OW:k≤t.length+1:=by
          have h1:=qX (s:=bs (x :: t)) (by show 0<(x :: t).toArray.size;simp);rw [hk] at h1;(have h2:(bs (x :: t)).size=t.length+1:=by show (x :: t).toArray.size=_;simp);omega
        have HK:Hd (ce (bs (s.data.toList.drop p))=k):=zh (by rw [mJ.o];exact hk);have fH:Hd (aX f (s.data.toList.drop (p+k)) (p+k) (l ++ [⟨5,p,p+k,bs ((s.data.toList.drop p).take k)⟩]) = .ok ts):=zh (by have h1:=kp.o;rw [if_neg vA,yD.o] at h1;rw [mJ.o];exact h1);clear kp hk;go_wp2_with fail;refine (tj (base:=g) rfl p8.o (by omega) l5 (by omega) hp (by rw [HX.o];exact FT) HK.o vA).mono ?_;rintro e w5 ⟨rfl,fu,dz⟩;have dI:=zh fu;have a8:=zh (be.o.trans dz);clear fu dz;go_wp2_with fail
        go_roundg f
        case measure=>omega
        case rel=>exact ⟨p+k,_,by omega,by omega,(by simp;omega),dI,a8,zh (by simpa using fH.o)⟩
theorem IK {ts:List Tk} (h:ee s = .ok ts):s.size≤65536∧gp s s.size 0=true∧aX (s.size+1) s.data.toList 0 [] = .ok ts:=by
  unfold ee at h;split at h
  · cases h
  rename_i h1
  refine ⟨by omega,?_,?_⟩
  · cases hv:gp s s.size 0 with
    | true=>rfl
    | false=>exact absurd (Or.inr hv) h1
  · cases hq:aX (s.size+1) s.data.toList 0 [] with
    | error e=>rw [hq] at h;cases h
    | ok l=>
      rw [hq] at h;have h2:(Except.ok l:Except (Int×Int) (List Tk))=Except.ok ts:=h;cases h2;rfl
theorem Bi {W:World} {b:Nat} {v c0 c1 c2 x0 x1 x4 x5 x6 x7 x8 x9 uP uO M5 K6 K5:Value} (h':aj W b 27 #[c0,c1,c2]) :
    (results Tryz.f13 #[x0,x1,v,.pointer (some ⟨b,0,none⟩),x4,x5,x6,x7,x8,x9,uP,uO,M5,K6,K5]).run prog W = .ok (.tuple #[v,.agg #[c0,c1,c2]]) W:=by
  have we:=h'.cell 0;have v_:=h'.cell 1;have v8:=h'.cell 2;simp at we v_ v8;simp [results,results13,go_sem,we,v_,v8]
theorem wX {ts:List Tk} (hr:ee s = .ok ts) :
    Calls prog 13 #[.string s] w (J7 w (.ok ts)):=by
  obtain ⟨hs,hv,hl⟩:=IK hr;have X7:Hd (∀ (w:World) (g:Nat),w.heap.size=g→Calls prog 27 #[.string s] w fun e w'=>∃ q,e = .returned (.pointer (some ⟨g,0,none⟩))∧ey g w' g s q ts∧Below g w w'):=zh fun w g hg=>Bf hg hs hv hl;clear hr hv hl hs;go_enter func13,ntmps13;go_wp2_with fail;refine (X7.o _ (w.heap.size+1) (by simp)).mono ?_;rintro e w1 ⟨q,rfl,hS,cB⟩;have kb:Hd (Below w.heap.size w w1):=zh (((Below.refl _ _).alloc (Nat.le_refl _) _).trans (cB.mono (Nat.le_succ _)));(have nY:(w.alloc (.cells #[.int .i64 0,.string ⟨#[]⟩,.int .i64 0] 27)).heap.size=w.heap.size+1:=by simp);rw [← nY] at cB;have jG:Hd (aj w1 w.heap.size 27 #[.int .i64 0,.string ⟨#[]⟩,.int .i64 0]):=zh ((aj.new _ _ _).below cB (by simp));clear nY;obtain ⟨A,c,R,m,d,xs,hm⟩:=hS;have D9:=jG.o.lt;have Ee:=jG.o.cell 0;have Ed:=jG.o.cell 1;have Ec:=jG.o.cell 2;have iL:=jG.o.frozen;simp at Ee Ed Ec;have G0:=hm.blk.cell 2;have R2:=hm.blk.cell 4;have Y0:=hm.blk.cell 5;have YZ:=hm.blk.cell 6;have ya:=hm.blk.lt;simp at G0 R2 Y0 YZ;have HM:=zh hm;clear hm cB;go_wp2_with fail
  go_region
  all_goals
    go_wp2_with fail;refine bodyPost_ret (Bi (((jG.o.set_ 0 _).set_ 1 _).set_ 2 _).drew) rfl ?_;refine ⟨(((kb.o.setCell (Nat.le_refl _) _).setCell (Nat.le_refl _) _).setCell (Nat.le_refl _) _).drew,A,c,rfl,?_⟩;exact rh (ownsRow_setCell_below (ownsRow_setCell_below (ownsRow_setCell_below HM.o.tok (by simp) _) (by simp) _) (by simp) _) (by simp)
end
end Go.Proofs.YtfmgdmeopakdaaaGreatDoor
