/- Parts of one proof. -/
import Derived.Test.YtfmgdmeopakdaaaGreatDoorMP1
set_option linter.unusedVariables false
set_option linter.unusedSimpArgs false
namespace Go.Proofs.YtfmgdmeopakdaaaGreatDoor
open Go Go.RowKit
mutual
def nestN:No→Bool
  | .mk _ fr t _ ks=>nestL t fr ks
def nestL (hi lo:Int):List No→Bool
  | []=>true
  | n :: ns=>if n.k=7 then (if n.fr=0∧n.to=0∧n.ks.length=0 then nestL hi lo ns else false) else
    if n.fr<lo then false else if n.to<n.fr then false else if hi<n.to∧n.fr<n.to then false else
    if nestN n=true then nestL hi (if n.fr<n.to then n.to else lo) ns else false
end
theorem nestL_cons {hi lo k f t:Int} {x:ByteArray} {ks ns:List No}:nestL hi lo (.mk k f t x ks :: ns)=if k=7 then (if f=0∧t=0∧ks.length=0 then nestL hi lo ns else false) else
    if f<lo then false else if t<f then false else if hi<t∧f<t then false else
    if nestN (.mk k f t x ks)=true then nestL hi (if f<t then t else lo) ns else false:=by rw [nestL];rfl
def KL (lo:Int):List No→Int→Prop
  | [],m=>lo≤m
  | n :: ns,m=>(n.k=7∧n.fr=0∧n.to=0∧n.ks=[]∧KL lo ns m)∨
    (n.k≠7∧lo≤n.fr∧n.fr≤n.to∧nestN n=true∧KL (if n.fr<n.to then n.to else lo) ns m)
theorem KL.le:∀ {l:List No} {lo m:Int},KL lo l m→lo≤m
  | [],lo,m,h=>h
  | n :: ns,lo,m,h=>by
    rcases h with ⟨-,-,-,-,h⟩ | ⟨-,h1,h2,-,h⟩
    · exact h.le
    · have:=h.le
      split at this <;> omega
theorem KL.wide:∀ {l:List No} {lo BA m m':Int},KL lo l m→BA≤lo→m≤m'→KL BA l m'
  | [],lo,BA,m,m',h,h1,h2=>Int.le_trans h1 (Int.le_trans h h2)
  | n :: ns,lo,BA,m,m',h,h1,h2=>by
    rcases h with ⟨a,b,c,d,h⟩ | ⟨a,b,c,d,h⟩
    · exact .inl ⟨a,b,c,d,h.wide h1 h2⟩
    · exact .inr ⟨a,by omega,c,d,h.wide (by split <;> omega) h2⟩
def OkN (lo:Int) (n:No) (m:Int):Prop:=KL lo [n] m
theorem KL.app:∀ {l l2:List No} {lo m m2:Int},KL lo l m→KL m l2 m2→KL lo (l ++ l2) m2
  | [],l2,lo,m,m2,h,h2=>h2.wide h (Int.le_refl _)
  | n :: ns,l2,lo,m,m2,h,h2=>by
    rcases h with ⟨a,b,c,d,h⟩ | ⟨a,b,c,d,h⟩
    · exact .inl ⟨a,b,c,d,h.app h2⟩
    · exact .inr ⟨a,b,c,d,h.app h2⟩
theorem KL.nest:∀ {l:List No} {lo m hi:Int},KL lo l m→m≤hi→nestL hi lo l=true
  | [],lo,m,hi,h,h1=>by rw [nestL]
  | .mk k f t x ks :: ns,lo,m,hi,h,h1=>by
    rw [nestL_cons];rcases h with ⟨a,b,c,d,h⟩ | ⟨a,b,c,d,h⟩
    · have a:k=7:=a
      have b:f=0:=b;have c:t=0:=c;have d:ks=[]:=d;rw [if_pos a,if_pos ⟨b,c,by rw [d];rfl⟩];exact h.nest h1
    · have a:k≠7:=a
      have b:lo≤f:=b;have c:f≤t:=c;have h:KL (if f<t then t else lo) ns m:=h;have e:(if f<t then t else lo)≤m:=h.le
      rw [if_neg a,if_neg (by omega),if_neg (by omega),if_neg (by
        rintro ⟨h5,h6⟩;rw [if_pos h6] at e
        omega),if_pos d]
      exact h.nest h1
theorem nest_mk {k f t:Int} {x:ByteArray} {ks:List No} {m:Int} (h:KL f ks m) (hm:m≤t):nestN (.mk k f t x ks)=true:=by
  rw [nestN];exact h.nest hm
theorem okN_mk {k f t lo m:Int} {x:ByteArray} {ks:List No} (hk:k≠7) (h:KL f ks t) (hl:lo≤f) (hm:t≤m):OkN lo (.mk k f t x ks) m:=by
  have:=h.le;refine .inr ⟨hk,hl,this,nest_mk h (Int.le_refl _),?_⟩
  show (if f<t then t else lo)≤m
  split <;> omega
theorem okN_empty {k f lo m:Int} (hk:k≠7) (hl:lo≤f) (hm:lo≤m):OkN lo (.mk k f f ⟨#[]⟩ []) m:=by
  refine .inr ⟨hk,hl,Int.le_refl _,nest_mk (m:=f) (Int.le_refl _) (Int.le_refl _),?_⟩
  show (if f<f then f else lo)≤m
  rw [if_neg (by omega)];exact hm
theorem okN_none {lo m:Int} (hm:lo≤m):OkN lo bo m:=.inl ⟨rfl,rfl,rfl,rfl,hm⟩
def FV (ts:List Tk) {α:Type} (V:Nat→α→Prop) (x:PM α) (i:Nat) (b:Bool):Prop:=
  ∀ a s',x (i,b)=some (.ok (a,s'))→s'.1<ts.length∧s'.2=b∧V s'.1 a
section
variable {ts:List Tk} {α β:Type} {i:Nat} {b:Bool} {l:List ByteArray} {V V':Nat→α→Prop} {U:Nat→β→Prop}
theorem FV.up {x:PM α} (h:FV ts V x i b) (hv:∀ j a,j<ts.length→V j a→V' j a):FV ts V' x i b:=fun a s' e=>by
  obtain ⟨h1,h2,h3⟩:=h a s' e;exact ⟨h1,h2,hv _ _ h1 h3⟩
theorem FV.fine {x:PM α} {m:Nat} (h:FV ts V x i b) (hf:qF ts m x i b):FV ts (fun j a=>m≤j∧V j a) x i b:=fun a s' e=>by
  obtain ⟨h1,h2,h3⟩:=h a s' e;exact ⟨h1,h2,(hf.2 a s' e).1,h3⟩
theorem fv_pure {a:α} (hi:i<ts.length) (hv:V i a):FV ts V (pure a) i b:=fun a' s' e=>by
  have e:(.ok (a,(i,b)):Except Int (α×Ps)) = .ok (a',s'):=Option.some.inj e;cases e;exact ⟨hi,rfl,hv⟩
theorem fv_bad:FV ts V (kh ts:PM α) i b:=fun a' s' e=>by cases Option.some.inj e
theorem fv_bind {x:PM α} {f:α→PM β} (h:FV ts V x i b) (hf:∀ a j,j<ts.length→V j a→FV ts U (f a) j b):FV ts U (x >>= f) i b:=by
  have e:=bind_def x f (i,b);intro a s' h2;rw [e] at h2;cases hr:x (i,b) with
  | none=>rw [hr] at h2;cases h2
  | some r=>
    cases r with
    | error p=>rw [hr] at h2;cases Option.some.inj h2
    | ok az=>
      obtain ⟨a1,i',b'⟩:=az;obtain ⟨k1,k2,k3⟩:=h a1 (i',b') hr;simp only at k1 k2 k3;subst k2;rw [hr] at h2;exact hf a1 i' k1 k3 a s' h2
theorem fv_now {f:Tk→PM β} (h:FV ts U (f (ap ts i)) i b):FV ts U (fo ts >>= f) i b:=h
theorem fv_ahead {n:Nat} {f:Tk→PM β} (h:FV ts U (f (ap ts (min (i+n) (ts.length - 1)))) i b):FV ts U (me ts n >>= f) i b:=h
theorem fv_is {f:Bool→PM β} (h:FV ts U (f (oneOf (ap ts i) l)) i b):FV ts U (rp ts l >>= f) i b:=h
theorem fv_from {f:Int→PM β} (h:FV ts U (f (ap ts i).fr) i b):FV ts U (kC ts >>= f) i b:=h
theorem fv_to {f:Int→PM β} (h:FV ts U (f (ap ts (i - 1)).to) i b):FV ts U (M7 ts >>= f) i b:=h
theorem fv_bare {f:Bool→PM β} (h:FV ts U (f b) i b):FV ts U (wj >>= f) i b:=h
theorem fv_made {k fr:Int} {tx:ByteArray} {ks:List No} {f:No→PM β} (h:FV ts U (f (.mk k fr (ap ts (i - 1)).to tx ks)) i b):FV ts U (bd ts k fr tx ks >>= f) i b:=h
theorem fv_mk {V:Nat→No→Prop} {k fr:Int} {tx:ByteArray} {ks:List No} (hi:i<ts.length) (hv:V i (.mk k fr (ap ts (i - 1)).to tx ks)):FV ts V (bd ts k fr tx ks) i b:=fun a' s' e=>by
  have e:(.ok (No.mk k fr (ap ts (i - 1)).to tx ks,(i,b)):Except Int (No×Ps)) = .ok (a',s'):=Option.some.inj e;cases e;exact ⟨hi,rfl,hv⟩
theorem fv_empty {V:Nat→No→Prop} {k:Int} (hi:i<ts.length) (hv:V i (.mk k (ap ts i).fr (ap ts i).fr ⟨#[]⟩ [])):FV ts V (oH ts k) i b:=fun a' s' e=>by
  have e:(.ok (No.mk k (ap ts i).fr (ap ts i).fr ⟨#[]⟩ [],(i,b)):Except Int (No×Ps)) = .ok (a',s'):=Option.some.inj e;cases e;exact ⟨hi,rfl,hv⟩
theorem fv_step {f:Unit→PM β} (h:FV ts U (f ()) (i+1) b):FV ts U (h_ >>= f) i b:=h
theorem fv_back {f:Unit→PM β} (h:FV ts U (f ()) (i - 1) b):FV ts U (tN >>= f) i b:=h
theorem fv_next {f:Tk→PM β} (h:FV ts U (f (ap ts i)) (i+1) b):FV ts U (lG ts >>= f) i b:=h
theorem fv_take (hw:WT ts) (hi:i<ts.length) {f:Bool→PM β} (h1:oneOf (ap ts i) l=true→i+1<ts.length→FV ts U (f true) (i+1) b) (h0:oneOf (ap ts i) l=false→FV ts U (f false) i b):FV ts U (bc ts l >>= f) i b:=by
  have e:=bind_def (bc ts l) f (i,b);unfold FV;rw [e];unfold bc;by_cases h:oneOf (ap ts i) l=true
  · rw [if_pos h]
    exact h1 h (hw.nxt i hi (cF h))
  · rw [if_neg h]
    exact h0 (by simpa using h)
theorem fv_need (hw:WT ts) (hi:i<ts.length) {x:ByteArray} {f:Tk→PM β} (h1:oneOf (ap ts i) [x]=true→i+1<ts.length→FV ts U (f (ap ts i)) (i+1) b):FV ts U (cE ts x >>= f) i b:=by
  have e:=bind_def (cE ts x) f (i,b);unfold FV;rw [e];unfold cE;by_cases h:oneOf (ap ts i) [x]=true
  · rw [if_pos h]
    exact h1 h (hw.nxt i hi (cF h))
  · rw [if_neg h]
    exact fun a s' e=>by cases Option.some.inj e
theorem fv_semi (hw:WT ts) (hi:i<ts.length) {f:Unit→PM β} (h1:(ap ts i).k=6→i+1<ts.length→FV ts U (f ()) (i+1) b):FV ts U (iI ts >>= f) i b:=by
  have e:=bind_def (iI ts) f (i,b);unfold FV;rw [e];unfold iI;by_cases h:(ap ts i).k=6
  · rw [if_pos h]
    exact h1 h (hw.nxt i hi (by rw [h];decide))
  · rw [if_neg h]
    exact fun a s' e=>by cases Option.some.inj e
theorem fv_name (hw:WT ts) (hi:i<ts.length) {f:No→PM β} (h1:(ap ts i).k=1→i+1<ts.length→FV ts U (f (.mk 40 (ap ts i).fr (ap ts i).to (ap ts i).tx [])) (i+1) b):FV ts U (dp ts >>= f) i b:=by
  have e:=bind_def (dp ts) f (i,b);unfold FV;rw [e];unfold dp;by_cases h:(ap ts i).k=1
  · rw [if_pos h]
    exact h1 h (hw.nxt i hi (by rw [h];decide))
  · rw [if_neg h]
    exact fun a s' e=>by cases Option.some.inj e
theorem fv_flag {q:Bool} {x:PM α} (h:FV ts V x i q):FV ts V (fP q x) i b:=by
  have e:fP q x (i,b)=match x (i,q) with
    | none=>none
    | some (.error p)=>some (.error p)
    | some (.ok (a,s'))=>some (.ok (a,(s'.1,b))):=rfl
  intro a s' h2;rw [e] at h2;cases hr:x (i,q) with
  | none=>rw [hr] at h2;cases h2
  | some r=>
    cases r with
    | error p=>rw [hr] at h2;cases Option.some.inj h2
    | ok az=>
      obtain ⟨a1,i',b'⟩:=az;obtain ⟨k1,k2,k3⟩:=h a1 (i',b') hr;rw [hr] at h2;cases Option.some.inj h2;exact ⟨k1,rfl,k3⟩
theorem fv_ite {c:Prop} [Decidable c] {x y:PM α} (h1:c→FV ts V x i b) (h2:¬c→FV ts V y i b):FV ts V (if c then x else y) i b:=by
  by_cases h:c
  · rw [if_pos h];exact h1 h
  · rw [if_neg h];exact h2 h
theorem fv_takeI (hw:WT ts) (hi:i<ts.length) {x y:PM β} (h1:oneOf (ap ts i) l=true→i+1<ts.length→FV ts U x (i+1) b) (h0:FV ts U y i b):FV ts U (bc ts l >>= fun q=>if q=true then x else y) i b:=
  fv_take hw hi (fun hq h=>by rw [if_pos rfl];exact h1 hq h) (fun _=>by rw [if_neg (by decide)];exact h0)
theorem fv_isI {x y:PM β} (h1:oneOf (ap ts i) l=true→FV ts U x i b) (h0:oneOf (ap ts i) l=false→FV ts U y i b):FV ts U (rp ts l >>= fun q=>if q=true then x else y) i b:=
  fv_is (fv_ite h1 fun h=>h0 (by simpa using h))
theorem fv_list (hw:WT ts) {σ:Type} {closing:ByteArray} {least:Nat} {one:σ→PM (No×σ)} (I:Nat→List No→σ→Prop) (hI:∀ i out u,I i out u→oneOf (ap ts i) [⟨#[44]⟩]=true→i+1<ts.length→I (i+1) out u)
    (h1:∀ u i out,i<ts.length→I i out u→FV ts (fun j x=>I j (out ++ [x.1]) x.2) (one u) i b) :
    ∀ (f:Nat) (u:σ) (out:List No) (i:Nat),i<ts.length→I i out u→FV ts (fun j x=>I j x.1 x.2) (fp ts closing least one f u out) i b
  | 0,_,_,i,_,_=>fun a s' e=>by cases e
  | f+1,u,out,i,h,h'=>by
    unfold fp;refine fv_is (fv_ite (fun _=>fv_pure h h') fun _=>?_);refine fv_bind (h1 u i out h h') fun x i' h3 h4=>?_;exact fv_takeI hw h3 (fun hq h5=>fv_list hw I hI h1 f x.2 _ (i'+1) h5 (hI _ _ _ h4 hq h5)) (fv_pure h3 h4)
theorem fv_row (hw:WT ts) {ends:Tk→Bool} {one:PM (No×Bool)} (I:Nat→List No→Prop) (hI:∀ i out,I i out→(ap ts i).k=6→i+1<ts.length→I (i+1) out)
    (h1:∀ i out,i<ts.length→I i out→FV ts (fun j x=>I j (if x.2=true then out ++ [x.1] else out)) one i b) :
    ∀ (f:Nat) (out:List No) (i:Nat),i<ts.length→I i out→FV ts (fun j x=>I j x) (rowP ts ends one f out) i b
  | 0,_,i,_,_=>fun a s' e=>by cases e
  | f+1,out,i,h,h'=>by
    unfold rowP;refine fv_now (fv_ite (fun _=>fv_pure h h') fun _=>?_);refine fv_bind (h1 i out h h') fun x i' h3 h4=>?_;refine fv_now (fv_ite (fun _=>fv_pure h3 h4) fun _=>?_);exact fv_semi hw h3 fun hq h5=>fv_row hw I hI h1 f _ (i'+1) h5 (hI _ _ h4 hq h5)
end
def NM (t:Tk):Prop:=t.k≠1∧t.k≠2
theorem nm_of {t:Tk} {k:Int} (h:t.k=k) (h1:k≠1∧k≠2):NM t:=by
  unfold NM;rw [h];exact h1
theorem one_nm {t:Tk} {l:List ByteArray} (h:oneOf t l=true):NM t:=by
  rcases M9 h with h | h <;> exact nm_of h (by decide)
theorem rank_nm {t:Tk} {r:Nat} (h:r<dm t):NM t:=by
  refine nm_of (k:=5) (Classical.byContradiction fun e=>?_) (by decide);unfold dm at h;rw [if_pos e] at h;omega
def KO (k:Int):Prop:=k≠7∧k≠40∧k≠42∧k≠51∧k≠61
instance {k:Int}:Decidable (KO k):=by unfold KO;infer_instance
mutual
def nmN:No→List (Int×ByteArray)
  | .mk k f _ x ks=>(if k=40∨k=42 then [(f,x)] else []) ++ nmL ks
def nmL:List No→List (Int×ByteArray)
  | []=>[]
  | n :: ns=>nmN n ++ nmL ns
end
theorem nmL_app:∀ l l2:List No,nmL (l ++ l2)=nmL l ++ nmL l2
  | [],l2=>by rw [nmL];rfl
  | n :: ns,l2=>by rw [List.cons_append,nmL,nmL,nmL_app ns l2,List.append_assoc]
theorem nmL_one (n:No):nmL [n]=nmN n:=by rw [nmL,nmL,List.append_nil]
theorem nmN_mk {k f t:Int} {x:ByteArray} {ks:List No} (h1:k≠40) (h2:k≠42):nmN (.mk k f t x ks)=nmL ks:=by
  rw [nmN,if_neg (fun h=>h.elim h1 h2)];rfl
theorem nmN_none:nmN bo=[]:=by
  show nmN (.mk 7 0 0 ⟨#[]⟩ [])=[]
  rw [nmN_mk (by decide) (by decide),nmL]
mutual
def szN:No→Nat
  | .mk _ _ _ _ ks=>1+szL ks
def szL:List No→Nat
  | []=>0
  | n :: ns=>szN n+szL ns
end
mutual
def hgN:No→Nat
  | .mk _ _ _ _ ks=>1+hgL ks
def hgL:List No→Nat
  | []=>0
  | n :: ns=>max (hgN n) (hgL ns)
end
theorem szL_app:∀ l l2:List No,szL (l ++ l2)=szL l+szL l2
  | [],l2=>by rw [szL];simp
  | n :: ns,l2=>by rw [List.cons_append,szL,szL,szL_app ns l2,Nat.add_assoc]
theorem hgL_app:∀ l l2:List No,hgL (l ++ l2)=max (hgL l) (hgL l2)
  | [],l2=>by rw [hgL];simp
  | n :: ns,l2=>by rw [List.cons_append,hgL,hgL,hgL_app ns l2];omega
def BL (l:List No) (e d:Nat):Prop:=szL l≤8 * hgL l * d+e
def BN (n:No) (d:Nat):Prop:=szN n≤8 * hgN n * d
theorem BL.wide {l:List No} {e e' d d':Nat} (h:BL l e d) (h1:e≤e') (h2:d≤d'):BL l e' d':=by
  have h3:8 * hgL l * d≤8 * hgL l * d':=Nat.mul_le_mul_left _ h2;have h4:szL l≤8 * hgL l * d+e:=h
  show szL l≤8 * hgL l * d'+e'
  omega
theorem BL.app {l l2:List No} {e e2 d d2:Nat} (h:BL l e d) (h2:BL l2 e2 d2):BL (l ++ l2) (e+e2) (d+d2):=by
  have h3:szL l≤8 * hgL l * d+e:=h;have h4:szL l2≤8 * hgL l2 * d2+e2:=h2
  show szL (l ++ l2)≤8 * hgL (l ++ l2) * (d+d2)+(e+e2)
  rw [szL_app,hgL_app];obtain ⟨H,hH⟩:∃ H,max (hgL l) (hgL l2)=H:=⟨_,rfl⟩;rw [hH,Nat.mul_add];have h5:8 * hgL l * d≤8 * H * d:=Nat.mul_le_mul_right _ (by omega);have h6:8 * hgL l2 * d2≤8 * H * d2:=Nat.mul_le_mul_right _ (by omega);omega
theorem bl_one {n:No} {e d:Nat}:BL [n] e d↔szN n≤8 * hgN n * d+e:=by
  unfold BL;rw [szL,szL,hgL,hgL];simp
theorem BN.bl {n:No} {d:Nat} (h:BN n d):BL [n] 0 d:=bl_one.2 h
theorem bl_none:BL [bo] 1 0:=bl_one.2 (by rw [bo,szN,szL];omega)
theorem BL.mk {l:List No} {e d:Nat} {k f t:Int} {x:ByteArray} (h:BL l e d) (h1:e≤7) (h2:1≤d):BN (.mk k f t x l) d:=by
  have h3:szL l≤8 * hgL l * d+e:=h
  show szN _≤8 * hgN _ * d
  rw [szN,hgN,Nat.mul_add,Nat.add_mul];omega
theorem BL.mk0 {l:List No} {d:Nat} {k f t:Int} {x:ByteArray} (h:BL l 0 d):BL [.mk k f t x l] 1 d:=by
  have h3:szL l≤8 * hgL l * d+0:=h;refine bl_one.2 ?_;rw [szN,hgN,Nat.mul_add,Nat.add_mul];omega
theorem bl_bare {k f t:Int} {x:ByteArray} {d:Nat}:BL [.mk k f t x []] 1 d:=bl_one.2 (by rw [szN,szL];omega)
theorem BN.wide {n:No} {d d':Nat} (h:BN n d) (h2:d≤d'):BN n d':=bl_one.1 (h.bl.wide (Nat.le_refl 0) h2)
def tk1 (t:Tk):List (Int×ByteArray):=if t.k=1∨t.k=2 then [(t.fr,t.tx)] else []
def tks (ts:List Tk) (i j:Nat):List (Int×ByteArray):=(List.range' i (j - i)).flatMap fun m=>tk1 (ap ts m)
structure RT (ts:List Tk):Prop where
  wid:∀ i,i<ts.length→0≤(ap ts i).fr∧(ap ts i).fr≤(ap ts i).to
  nxt:∀ i,i+1<ts.length→(ap ts i).to≤(ap ts (i+1)).fr
section
variable {ts:List Tk} {i j k m i0:Nat} {lo:Int} {n:No} {out l:List No}
theorem tks_nil:tks ts i i=[]:=by simp [tks]
theorem tks_app (h1:i≤j) (h2:j≤k):tks ts i j ++ tks ts j k=tks ts i k:=by
  unfold tks;rw [← List.flatMap_append];have e:=List.range'_append_1 (s:=i) (m:=j - i) (n:=k - j);rw [show i+(j - i)=j by omega,show j - i+(k - j)=k - i by omega] at e;rw [e]
theorem tks_one:tks ts i (i+1)=tk1 (ap ts i):=by
  simp [tks]
theorem tks_step (h1:i≤j) (hk:NM (ap ts j)):tks ts i (j+1)=tks ts i j:=by
  rw [← tks_app h1 (Nat.le_succ j),tks_one,tk1,if_neg (fun h=>h.elim hk.1 hk.2),List.append_nil]
theorem RT.le (h:RT ts):∀ {j i:Nat},i<j→j≤ts.length→(ap ts i).fr≤(ap ts (j - 1)).to
  | 0,i,h1,h2=>by omega
  | j+1,i,h1,h2=>by
    show (ap ts i).fr≤(ap ts j).to
    by_cases e:i=j
    · subst e;exact (h.wid i (by omega)).2
    · have h3:=h.le (j:=j) (i:=i) (by omega) (by omega)
      have h4:=h.nxt (j - 1) (by omega);have h5:=(h.wid j (by omega)).2;(have h6:j - 1+1=j:=by omega);rw [h6] at h4;omega
theorem RT.en (h:RT ts) (h1:1≤i) (hi:i<ts.length):(ap ts (i - 1)).to≤(ap ts i).fr:=by
  have:=h.nxt (i - 1) (by omega)
  rwa [Nat.sub_add_cancel h1] at this
theorem tks_cons (h1:i<j) (hk:NM (ap ts i)):tks ts i j=tks ts (i+1) j:=by
  rw [← tks_app (Nat.le_succ i) h1,tks_one,tk1,if_neg (fun h=>h.elim hk.1 hk.2)];rfl
def VO (ts:List Tk) (i j:Nat) (n:No):Prop:=i<j∧OkN (ap ts i).fr n (ap ts (j - 1)).to∧nmN n=tks ts i j∧BN n (j - i)
structure VN (ts:List Tk) (i j:Nat) (n:No):Prop where
  o:VO ts i j n
  k7:n.k≠7
  en:n.to≤(ap ts (j - 1)).to
  one:n.k=51∨n.k=61→n.ks.length=1∧BN (n.ks.headD bo) (j - i)
theorem VN.lt (h:VN ts i j n):i<j:=h.o.1
def VE (ts:List Tk) (i j:Nat) (n:No):Prop:=i≤j∧OkN (ap ts (i - 1)).to n (ap ts (j - 1)).to∧nmN n=tks ts i j∧BL [n] 1 (j - i)
def VI (ts:List Tk) (lo:Int) (i0 i:Nat) (out:List No):Prop:=i0<i∧KL lo out (ap ts (i - 1)).to∧nmL out=tks ts i0 i∧∃ e,e≤7∧e≤out.length∧BL out e (i - i0)
theorem kl_snoc {lo m p m':Int} {out:List No} {n:No} (h:KL lo out m) (h2:OkN p n m') (hm:m≤p):KL lo (out ++ [n]) m':=h.app (h2.wide hm (Int.le_refl _))
theorem VI.nil (h:RT ts) (hi:i<ts.length) (hk:NM (ap ts i)):VI ts (ap ts i).fr i (i+1) []:=
  ⟨Nat.lt_succ_self _,(h.wid i hi).2,by rw [nmL,tks_step (Nat.le_refl _) hk,tks_nil],0,by omega,by omega,by show szL []≤_;rw [szL];omega⟩
theorem VI.step (h:RT ts) (hv:VI ts lo i0 i out) (hi:i+1<ts.length) (hk:NM (ap ts i)):VI ts lo i0 (i+1) out:=
  ⟨by have:=hv.1;omega,hv.2.1.wide (Int.le_refl _) (Int.le_trans (h.en (by have:=hv.1;omega) (by omega)) (h.wid i (by omega)).2),by rw [hv.2.2.1,tks_step (Nat.le_of_lt hv.1) hk],hv.2.2.2.imp fun e h=>⟨h.1,h.2.1,h.2.2.wide (Nat.le_refl _) (by omega)⟩⟩
theorem VI.snoc (h:RT ts) (hv:VI ts lo i0 i out) (hi:i<ts.length) (hn:VO ts i j n):VI ts lo i0 j (out ++ [n]):=
  ⟨by have:=hv.1;have:=hn.1;omega,kl_snoc hv.2.1 hn.2.1 (h.en (by have:=hv.1;omega) hi),by rw [nmL_app,nmL_one,hv.2.2.1,hn.2.2.1,tks_app (Nat.le_of_lt hv.1) (Nat.le_of_lt hn.1)],hv.2.2.2.imp fun e h=>⟨h.1,by simp;omega,(h.2.2.app hn.2.2.2.bl).wide (Nat.le_refl _) (by have:=hv.1;have:=hn.1;omega)⟩⟩
theorem VI.snocE (hv:VI ts lo i0 i out) (hn:VE ts i j n) (hl:out.length≤6:=by simp):VI ts lo i0 j (out ++ [n]):=
  ⟨by have:=hv.1;have:=hn.1;omega,kl_snoc hv.2.1 hn.2.1 (Int.le_refl _),by rw [nmL_app,nmL_one,hv.2.2.1,hn.2.2.1,tks_app (Nat.le_of_lt hv.1) hn.1],by obtain ⟨e,h1,h2,h3⟩:=hv.2.2.2;exact ⟨e+1,by omega,by simp;omega,(h3.app hn.2.2.2).wide (Nat.le_refl _) (by have:=hv.1;have:=hn.1;omega)⟩⟩
theorem VI.none (hv:VI ts lo i0 i out) (hl:out.length≤6:=by simp):VI ts lo i0 i (out ++ [bo]):=
  ⟨hv.1,kl_snoc hv.2.1 (okN_none (Int.le_refl _)) (Int.le_refl _),by rw [nmL_app,nmL_one,hv.2.2.1,nmN_none,List.append_nil],by obtain ⟨e,h1,h2,h3⟩:=hv.2.2.2;exact ⟨e+1,by omega,by simp;omega,(h3.app bl_none).wide (Nat.le_refl _) (by omega)⟩⟩
theorem VI.cons_none (hv:VI ts lo i0 i out) (hl:out.length≤6:=by simp):VI ts lo i0 i (bo :: out):=
  ⟨hv.1,.inl ⟨rfl,rfl,rfl,rfl,hv.2.1⟩,by rw [nmL,nmN_none,hv.2.2.1];rfl,by obtain ⟨e,h1,h2,h3⟩:=hv.2.2.2;exact ⟨1+e,by omega,by simp;omega,(bl_none.app h3).wide (Nat.le_refl _) (by omega)⟩⟩
theorem VI.mkf {f:Int} {k:Int} {x:ByteArray} (hv:VI ts f i j l) (hf:(ap ts i).fr≤f) (hk:KO k):VN ts i j (.mk k f (ap ts (j - 1)).to x l):=
  ⟨⟨hv.1,okN_mk hk.1 hv.2.1 hf (Int.le_refl _),by rw [nmN_mk hk.2.1 hk.2.2.1,hv.2.2.1],by obtain ⟨e,h1,-,h3⟩:=hv.2.2.2;exact h3.mk h1 (by have:=hv.1;omega)⟩,hk.1,Int.le_refl _,fun h=>h.elim (fun h=>absurd h hk.2.2.2.1) fun h=>absurd h hk.2.2.2.2⟩
theorem VI.mk {k:Int} {x:ByteArray} (hv:VI ts (ap ts i).fr i j l) (hk:KO k):VN ts i j (.mk k (ap ts i).fr (ap ts (j - 1)).to x l):=hv.mkf (Int.le_refl _) hk
theorem VI.mk1 {k:Int} {x:ByteArray} (hv:VI ts (ap ts i).fr i j [n]) {i':Nat} (yd:i≤i') (hb:VO ts i' j n) (hk:k=51∨k=61):VN ts i j (.mk k (ap ts i).fr (ap ts (j - 1)).to x [n]):=by
  (have h7:k≠7∧k≠40∧k≠42:=by rcases hk with rfl | rfl <;> decide);exact ⟨⟨hv.1,okN_mk h7.1 hv.2.1 (Int.le_refl _) (Int.le_refl _),by rw [nmN_mk h7.2.1 h7.2.2,hv.2.2.1],by obtain ⟨e,h1,-,h3⟩:=hv.2.2.2;exact h3.mk h1 (by have:=hv.1;omega)⟩,h7.1,Int.le_refl _,fun _=>⟨rfl,hb.2.2.2.wide (by omega)⟩⟩
theorem VO.vi (hn:VO ts i j n):VI ts (ap ts i).fr i j [n]:=⟨hn.1,hn.2.1,by rw [nmL_one,hn.2.2.1],0,by omega,by simp,hn.2.2.2.bl⟩
theorem VN.vi (hn:VN ts i j n):VI ts (ap ts i).fr i j [n]:=hn.o.vi
theorem VN.ok (hn:VN ts i j n):(ap ts i).fr≤n.fr∧n.fr≤n.to∧nestN n=true∧KL n.fr [n] n.to:=by
  rcases hn.o.2.1 with ⟨a,-⟩ | ⟨a,b,c,d,-⟩
  · exact absurd a hn.k7
  · refine ⟨b,c,d,.inr ⟨a,Int.le_refl _,c,d,?_⟩⟩
    show (if n.fr<n.to then n.to else n.fr)≤n.to
    split <;> omega
theorem VN.back (h:RT ts) (hi:i+1<ts.length) (hk:NM (ap ts i)) (hn:VN ts (i+1) j n):VN ts i j n:=
  ⟨⟨by have:=hn.lt;omega,hn.o.2.1.wide (Int.le_trans (h.wid i (by omega)).2 (h.nxt i hi)) (Int.le_refl _),by rw [hn.o.2.2.1,tks_cons (by have:=hn.lt;omega) hk],hn.o.2.2.2.wide (by omega)⟩,hn.k7,hn.en,fun h=>⟨(hn.one h).1,(hn.one h).2.wide (by omega)⟩⟩
theorem VN.fwd (h:RT ts) (hj:j+1<ts.length) (hk:NM (ap ts j)) (hn:VN ts i j n):VN ts i (j+1) n:=by
  have h1:(ap ts (j - 1)).to≤(ap ts j).to:=Int.le_trans (h.en (by have:=hn.lt;omega) (by omega)) (h.wid j (by omega)).2;exact ⟨⟨by have:=hn.lt;omega,hn.o.2.1.wide (Int.le_refl _) h1,by rw [hn.o.2.2.1,tks_step (Nat.le_of_lt hn.lt) hk],hn.o.2.2.2.wide (by omega)⟩,hn.k7,Int.le_trans hn.en h1,fun h=>⟨(hn.one h).1,(hn.one h).2.wide (by omega)⟩⟩
theorem VN.self (hn:VN ts i j n):VI ts n.fr i j [n]:=⟨hn.lt,hn.ok.2.2.2.wide (Int.le_refl _) hn.en,by rw [nmL_one,hn.o.2.2.1],0,by omega,by simp,hn.o.2.2.2.bl⟩
theorem VN.ve (h:RT ts) (hn:VN ts i j n) (h1:1≤i) (hi:i<ts.length):VE ts i j n:=⟨Nat.le_of_lt hn.lt,hn.o.2.1.wide (h.en h1 hi) (Int.le_refl _),hn.o.2.2.1,hn.o.2.2.2.bl.wide (by omega) (Nat.le_refl _)⟩
theorem vn_leaf {k:Int} (h:RT ts) (hi:i<ts.length) (hk:k=40∧(ap ts i).k=1∨k=42∧(ap ts i).k=2):VN ts i (i+1) (.mk k (ap ts i).fr (ap ts i).to (ap ts i).tx []):=by
  (have h7:k≠7∧k≠51∧k≠61:=by rcases hk with ⟨rfl,-⟩ | ⟨rfl,-⟩ <;> decide);refine ⟨⟨Nat.lt_succ_self _,okN_mk h7.1 (h.wid i hi).2 (Int.le_refl _) (Int.le_refl _),?_,BL.mk (e:=0) (by show szL []≤_;rw [szL];omega) (by omega) (by omega)⟩,h7.1,Int.le_refl _,fun h=>h.elim (fun h=>absurd h h7.2.1) fun h=>absurd h h7.2.2⟩;rw [nmN,nmL,tks_one,tk1,if_pos (hk.elim (fun h=>.inl h.1) fun h=>.inr h.1),if_pos (hk.elim (fun h=>.inl h.2) fun h=>.inr h.2)];rfl
theorem vn_name (h:RT ts) (hi:i<ts.length) (hk:(ap ts i).k=1):VN ts i (i+1) (.mk 40 (ap ts i).fr (ap ts i).to (ap ts i).tx []):=vn_leaf h hi (.inl ⟨rfl,hk⟩)
theorem ve_empty {k:Int} (h:RT ts) (h1:1≤i) (hi:i<ts.length) (hk:KO k):VE ts i i (.mk k (ap ts i).fr (ap ts i).fr ⟨#[]⟩ []):=
  ⟨Nat.le_refl _,okN_empty hk.1 (h.en h1 hi) (Int.le_refl _),by rw [nmN_mk hk.2.1 hk.2.2.1,nmL,tks_nil],bl_one.2 (by rw [szN,szL];omega)⟩
theorem VN.kid (hn:VN ts i j n) (hk:n.k=51∨n.k=61):VO ts i j (n.ks.headD bo):=by
  obtain ⟨h1,U4⟩:=hn.one hk;have h2:=hn.ok;have h3:=hn.o.2.2.1;have h4:=hn.en;obtain ⟨kd,f,t,x,ks⟩:=n
  match ks,h1 with
  | [c],_=>
    simp only [No.k,No.fr,No.to,No.ks,List.headD_cons] at *;rw [nmN_mk (by omega) (by omega),nmL_one] at h3;refine ⟨hn.lt,?_,h3,U4⟩;(have h5:nestL t f [c]=true:=by have:=h2.2.2.1;rwa [nestN] at this);obtain ⟨ck,cf,ct,cx,cks⟩:=c;rw [nestL_cons] at h5
    show OkN (ap ts i).fr (.mk ck cf ct cx cks) (ap ts (j - 1)).to
    by_cases e7:ck=7
    · rw [if_pos e7] at h5
      split at h5
      · rename_i hz
        exact .inl ⟨e7,hz.1,hz.2.1,List.eq_nil_of_length_eq_zero hz.2.2,by show (ap ts i).fr≤_;omega⟩
      · cases h5
    · rw [if_neg e7] at h5
      split at h5
      · cases h5
      split at h5
      · cases h5
      split at h5
      · cases h5
      split at h5
      · rename_i g1 g2 g3 g4
        refine .inr ⟨e7,by show _≤cf;omega,by show cf≤ct;omega,g4,?_⟩
        show (if cf<ct then ct else (ap ts i).fr)≤_
        split
        · have:¬ t<ct:=fun h=>g3 ⟨h,by assumption⟩
          omega
        · omega
      · cases h5
def endL (lo:Int) (l:List No):Int:=(l.getLast?.map No.to).getD lo
def VL (ts:List Tk) (lo:Int) (i0 i:Nat) (out:List No):Prop:=i0≤i∧1≤i∧KL lo out (endL lo out)∧endL lo out≤(ap ts (i - 1)).to∧nmL out=tks ts i0 i∧BL out 0 (i - i0)
theorem VL.nil (h1:1≤i) (hl:lo≤(ap ts (i - 1)).to):VL ts lo i i []:=⟨Nat.le_refl _,h1,Int.le_refl _,hl,by rw [nmL,tks_nil],by show szL []≤_;rw [szL];omega⟩
theorem VL.step (h:RT ts) (hv:VL ts lo i0 i out) (hi:i+1<ts.length) (hk:NM (ap ts i)):VL ts lo i0 (i+1) out:=
  ⟨by have:=hv.1;omega,by omega,hv.2.2.1,Int.le_trans hv.2.2.2.1 (Int.le_trans (h.en hv.2.1 (by omega)) (h.wid i (by omega)).2),by rw [hv.2.2.2.2.1,tks_step hv.1 hk],hv.2.2.2.2.2.wide (Nat.le_refl _) (by omega)⟩
theorem VL.snoc (h:RT ts) (hv:VL ts lo i0 i out) (hi:i<ts.length) (hn:VN ts i j n):VL ts lo i0 j (out ++ [n]):=by
  (have e:endL lo (out ++ [n])=n.to:=by simp [endL]);have h1:=hn.lt;have h2:=hv.1;have h3:=hn.ok;refine ⟨by omega,by omega,?_,by rw [e];exact hn.en,by rw [nmL_app,nmL_one,hv.2.2.2.2.1,hn.o.2.2.1,tks_app h2 (Nat.le_of_lt h1)],(hv.2.2.2.2.2.app hn.o.2.2.2.bl).wide (Nat.le_refl _) (by omega)⟩;rw [e];exact kl_snoc hv.2.2.1 (p:=n.fr) h3.2.2.2 (Int.le_trans hv.2.2.2.1 (Int.le_trans (h.en hv.2.1 hi) h3.1))
def VR (ts:List Tk) (i j:Nat) (l:List No):Prop:=∃ x t,l=x :: t∧i<j∧(ap ts i).fr≤x.fr∧VL ts x.fr i j l∧(t=[]→VN ts i j x)
theorem VN.vr (hn:VN ts i j n):VR ts i j [n]:=⟨n,[],rfl,hn.lt,hn.ok.1,⟨Nat.le_of_lt hn.lt,by have:=hn.lt;omega,hn.ok.2.2.2,hn.en,by rw [nmL_one,hn.o.2.2.1],hn.o.2.2.2.bl⟩,fun _=>hn⟩
theorem VR.snoc (h:RT ts) (hv:VR ts i j l) (hj:j+1<ts.length) (hk:NM (ap ts j)) (hn:VN ts (j+1) k n):VR ts i k (l ++ [n]):=by
  obtain ⟨x,t,rfl,h1,h2,h3,-⟩:=hv;exact ⟨x,t ++ [n],rfl,by have:=hn.lt;omega,h2,(h3.step h hj hk).snoc h hj hn,fun e=>by simp at e⟩
theorem VR.one (hv:VR ts i j l) (h1:l.length=1):VN ts i j (l.headD bo):=by
  obtain ⟨x,t,rfl,-,-,-,h⟩:=hv;exact h (List.eq_nil_of_length_eq_zero (by simpa using h1))
theorem VR.vi (hv:VR ts i j l):VI ts (ap ts i).fr i j l:=by
  obtain ⟨x,t,rfl,h1,h2,h3,-⟩:=hv;exact ⟨h1,h3.2.2.1.wide h2 h3.2.2.2.1,h3.2.2.2.2.1,0,by omega,by omega,h3.2.2.2.2.2⟩
theorem VI.app (h:RT ts) (hv:VI ts lo i0 i out) (hi:i<ts.length) (hl:VR ts i j l):VI ts lo i0 j (out ++ l):=by
  have h1:=hl.vi
  exact ⟨by have:=hv.1;have:=h1.1;omega,hv.2.1.app (h1.2.1.wide (h.en (by have:=hv.1;omega) hi) (Int.le_refl _)),by rw [nmL_app,hv.2.2.1,h1.2.2.1,tks_app (Nat.le_of_lt hv.1) (Nat.le_of_lt h1.1)],by
    obtain ⟨x,t,rfl,g1,g2,g3,-⟩:=hl;obtain ⟨e,e1,e2,e3⟩:=hv.2.2.2
    exact ⟨e,e1,by simp;omega,(e3.app g3.2.2.2.2.2).wide (Nat.le_refl _) (by have:=hv.1;omega)⟩⟩
theorem VR.several (hv:VR ts i j l):VN ts i j (aB l):=by
  obtain ⟨x,t,rfl,h1,h2,h3,-⟩:=hv
  have e:aB (x :: t) = .mk 65 x.fr (endL x.fr (x :: t)) ⟨#[]⟩ (x :: t):=by
    simp only [aB,endL,List.head?_cons,Option.map_some,Option.getD_some,List.getLast?_cons]
  rw [e];exact ⟨⟨h1,okN_mk (by decide) h3.2.2.1 h2 h3.2.2.2.1,by rw [nmN_mk (by decide) (by decide),h3.2.2.2.2.1],h3.2.2.2.2.2.mk (by omega) (by omega)⟩,by show (65:Int)≠7;decide,h3.2.2.2.1,fun h=>by rcases h with h | h <;> exact absurd h (by show (65:Int)≠_;decide)⟩
def VS (ts:List Tk) (i j:Nat) (x:No×Bool):Prop:=(x.2=false→j=i)∧(x.2=true→VN ts i j x.1)
end
structure GV (ts:List Tk) (G:Gr):Prop where
  typ:∀ i b,0<i→i<ts.length→FV ts (VN ts i) G.typ i b
  expr:∀ i b,0<i→i<ts.length→FV ts (VN ts i) G.expr i b
  unary:∀ i b,0<i→i<ts.length→FV ts (VN ts i) G.unary i b
  binary:∀ x r i0 i b,0<r→VN ts i0 i x→i<ts.length→FV ts (VN ts i0) (G.binary x r) i b
  suffixes:∀ x i0 i b,VN ts i0 i x→i<ts.length→FV ts (VN ts i0) (G.suffixes x) i b
  stmt:∀ i b,0<i→i<ts.length→FV ts (VS ts i) G.stmt i b
  branch:∀ i b,0<i→i<ts.length→oneOf (ap ts i) [⟨#[105,102]⟩]=true→FV ts (VN ts i) G.branch i b
section
variable {ts:List Tk} {i j k i0:Nat} {b:Bool} {G:Gr} {lo:Int} {out l:List No}
theorem typeName_v (hw:WT ts) (h:RT ts) (hi:i<ts.length):FV ts (VN ts i) (dk ts) i b:=by
  unfold dk;refine fv_name hw hi fun hk h1=>fv_takeI hw h1 (fun hq h2=>?_) (fv_pure h1 (vn_name h hi hk));exact fv_name hw h2 fun fT h3=>fv_mk h3 (VI.mk (((vn_name h hi hk).vi.step h h2 (one_nm hq)).snoc h h2 (vn_name h h2 fT).o) (by decide))
theorem paramOne_v (hw:WT ts) (h:RT ts) (hG:GV ts G) {q:Bool} (hi:i<ts.length):FV ts (fun j x=>VN ts i j x.1) (gC ts G q) i b:=by
  unfold gC;refine fv_ite (fun _=>fv_bad) fun _=>fv_from (fv_name hw hi fun hk h1=>?_);have hn:=(vn_name h hi hk).vi;refine fv_take hw h1 (fun hq h2=>?_) (fun _=>?_)
  · exact fv_bind (hG.typ _ b (by omega) h2) fun t j h3 h4=>fv_made (fv_pure h3 (VI.mk ((hn.step h h2 (one_nm hq)).snoc h h2 h4.o) (by decide)))
  · exact fv_bind (hG.typ _ b (by omega) h1) fun t j h3 h4=>fv_made (fv_pure h3 (VI.mk (hn.snoc h h1 h4.o) (by decide)))
theorem list_v (hw:WT ts) (h:RT ts) {σ:Type} {closing:ByteArray} {least:Nat} {one:σ→PM (No×σ)} {pre:List No} (h1:∀ u j,i0<j→j<ts.length→FV ts (fun k x=>VN ts j k x.1) (one u) j b) (f:Nat) (u:σ) (hi:i<ts.length) (hv:VI ts lo i0 i pre) :
    FV ts (fun j x=>VI ts lo i0 j (pre ++ x.1)) (fp ts closing least one f u []) i b:=
  fv_list hw (fun j out _=>VI ts lo i0 j (pre ++ out)) (fun j out u hv hq hj=>hv.step h hj (one_nm hq)) (fun u j out hj hv=>(h1 u j hv.1 hj).up fun k x _ hx=>by rw [← List.append_assoc];exact hv.snoc h hj hx.o) f u [] i hi (by rwa [List.append_nil])
theorem params_v (hw:WT ts) (h:RT ts) (hG:GV ts G) (hi:i<ts.length):FV ts (VN ts i) (iu ts G) i b:=by
  unfold iu;refine fv_need hw hi fun hq h1=>fv_bind (list_v hw h (pre:=[]) (fun u j hj WU=>paramOne_v hw h hG WU) _ _ h1 (VI.nil h hi (one_nm hq))) fun l j h2 h3=>?_;exact fv_need hw h2 fun hq h4=>fv_mk h4 (VI.mk (h3.step h h4 (one_nm hq)) (by decide))
theorem plain_v {V:Nat→No→Prop} {x:PM No} {u:Unit} (hx:FV ts V x i b):FV ts (fun j y=>V j y.1) (plain x u) i b:=fv_bind hx fun a j h1 h2=>fv_pure h1 h2
theorem results_v (hw:WT ts) (h:RT ts) (hG:GV ts G) (h1:0<i) (hi:i<ts.length):FV ts (VE ts i) (eW ts G) i b:=by
  unfold eW;refine fv_isI (fun hq=>?_) fun _=>fv_now (fv_ite (fun _=>?_) fun _=>?_)
  · have h2:=hw.nxt i hi (cF hq)
    refine fv_next (fv_bind (list_v hw h (pre:=[]) (fun u j hj WU=>plain_v (hG.typ j b (by omega) WU)) _ _ h2 (VI.nil h hi (one_nm hq))) fun l j h3 h4=>?_);exact fv_need hw h3 fun hq h5=>fv_mk h5 ((VI.mk (h4.step h h5 (one_nm hq)) (by decide)).ve h h1 hi)
  · exact fv_bind (hG.typ i b h1 hi) fun x j h3 h4=>fv_mk h3 ((VI.mk h4.vi (by decide)).ve h h1 hi)
  · exact fv_empty hi (ve_empty h h1 hi (by decide))
theorem types_v (hw:WT ts) (h:RT ts) {σ:Type} {one:σ→PM (No×σ)} {u:σ} (h1:0<i) (hi:i<ts.length) (hO:∀ u j b,i≤j→j<ts.length→FV ts (fun k x=>VN ts j k x.1) (one u) j b) :
    FV ts (fun j x=>VE ts i j x.1) (kV ts one u) i b:=by
  unfold kV;have he:=h.en h1 hi;refine fv_bind (fv_empty (V:=fun j n=>j=i∧n = .mk 27 (ap ts i).fr (ap ts i).fr ⟨#[]⟩ []) hi ⟨rfl,rfl⟩) fun n j hj hv=>?_;obtain ⟨rfl,rfl⟩:=hv;refine fv_bind (fv_list hw (fun k out _=>(out=[]∧j≤k∧(ap ts (j - 1)).to≤(ap ts (k - 1)).to∧tks ts j k=[])∨(out≠[]∧VL ts (ap ts j).fr j k out)) ?_ ?_ _ u [] j hj (.inl ⟨rfl,Nat.le_refl _,Int.le_refl _,tks_nil⟩)) fun l k h2 h3=>fv_pure h2 ?_
  · rintro k out u (⟨rfl,a,c,d⟩ | ⟨a,c⟩) hq hk
    · exact .inl ⟨rfl,by omega,Int.le_trans c (Int.le_trans (h.en (by omega) (by omega)) (h.wid k (by omega)).2),by rw [tks_step a (one_nm hq),d]⟩
    · exact .inr ⟨a,c.step h hk (one_nm hq)⟩
  · intro u k out hk hI
    have hjk:j≤k:=hI.elim (fun h=>h.2.1) fun h=>h.2.1;refine (hO u k b hjk hk).up fun m x _ hx=>.inr ⟨by simp,?_⟩;rcases hI with ⟨rfl,a,c,d⟩ | ⟨a,c⟩
    · have hp:(ap ts j).fr≤(ap ts k).fr:=by
        by_cases e:j=k
        · subst e;exact Int.le_refl _
        · exact Int.le_trans (h.le (j:=k) (by omega) (by omega)) (h.en (by omega) hk)
      have h1:=hx.ok;refine ⟨by have:=hx.lt;omega,by have:=hx.lt;omega,?_,hx.en,?_,hx.o.2.2.2.bl.wide (Nat.le_refl _) (by omega)⟩
      · show KL (ap ts j).fr [x.1] x.1.to
        exact h1.2.2.2.wide (by omega) (Int.le_refl _)
      · show nmL [x.1]=_
        rw [nmL_one,hx.o.2.2.1,← tks_app a (Nat.le_of_lt hx.lt),d];rfl
    · exact c.snoc h hk hx
  · rcases h3 with ⟨a,b',c,d⟩ | ⟨a,c⟩
    · refine ⟨b',?_,?_,?_⟩
      · rw [a]
        exact okN_empty (by show (27:Int)≠7;decide) he c
      · rw [a,d]
        exact (nmN_mk (by show (27:Int)≠40;decide) (by show (27:Int)≠42;decide)).trans (by rw [nmL])
      · rw [a]
        exact bl_bare
    · exact ⟨c.1,okN_mk (by show (27:Int)≠7;decide) c.2.2.1 he c.2.2.2.1,(nmN_mk (by show (27:Int)≠40;decide) (by show (27:Int)≠42;decide)).trans c.2.2.2.2.1,c.2.2.2.2.2.mk0⟩
theorem funcOne_v (hw:WT ts) (h:RT ts) (hG:GV ts G) {d:Bool} (h1:0<i) (hi:i<ts.length):FV ts (fun j x=>VN ts i j x.1) (jg ts G d) i b:=by
  unfold jg;refine fv_ite (fun _=>fv_bad) fun _=>fv_take hw hi (fun hq h1=>?_) (fun _=>?_)
  · exact fv_bind (hG.typ (i+1) b (by omega) h1) fun x j h2 h3=>fv_pure h2 (h3.back h h1 (one_nm hq))
  · exact fv_bind (hG.typ i b (by omega) hi) fun x j h2 h3=>fv_pure h2 h3
theorem funcType_v (hw:WT ts) (h:RT ts) (hG:GV ts G) (hv:VI ts lo i0 i []) (dA:(ap ts i0).fr≤lo) (hi:i<ts.length):FV ts (VN ts i0) (fW ts G lo) i b:=by
  unfold fW;refine fv_need hw hi fun hq h2=>fv_bind (types_v hw h (i:=i+1) (by omega) h2 fun u j b hj WU=>funcOne_v hw h hG (by omega) WU) fun l j h3 h4=>?_;refine fv_need hw h3 fun xZ h5=>fv_bind (results_v hw h hG (i:=j+1) (by omega) h5) fun r k h6 h7=>?_;exact fv_mk h6 (VI.mkf ((((hv.step h h2 (one_nm hq)).snocE h4).step h h5 (one_nm xZ)).snocE h7) dA (by decide))
theorem field_v (hw:WT ts) (h:RT ts) (hG:GV ts G) (hi:i<ts.length):FV ts (fun j x=>x.2=true∧VN ts i j x.1) (l_ ts G) i b:=by
  unfold l_;refine fv_from (fv_name hw hi fun hk h1=>fv_now (fv_ite (fun _=>?_) fun _=>fv_ite (fun _=>?_) fun _=>?_))
  · refine fv_back ?_
    rw [Nat.add_sub_cancel];exact fv_bind (typeName_v hw h hi) fun x j h2 h3=>fv_made (fv_pure h2 ⟨rfl,VI.mk h3.vi (by decide)⟩)
  · exact fv_made (fv_pure h1 ⟨rfl,VI.mk (vn_name h hi hk).vi (by decide)⟩)
  · exact fv_bind (hG.typ (i+1) b (by omega) h1) fun x j h2 h3=>fv_made (fv_pure h2 ⟨rfl,VI.mk ((vn_name h hi hk).vi.snoc h h1 h3.o) (by decide)⟩)
theorem element_v (hw:WT ts) (h:RT ts) (hG:GV ts G) (hi:i<ts.length):FV ts (fun j x=>x.2=true∧VN ts i j x.1) (im ts G) i b:=by
  unfold im;refine fv_from (fv_name hw hi fun hk h1=>fv_isI (fun hq=>?_) fun _=>?_)
  · have h2:=hw.nxt (i+1) h1 (cF hq)
    refine fv_next (fv_bind (types_v hw h (i:=i+1+1) (by omega) h2 fun u j b hj WU=>plain_v (hG.typ j b (by omega) WU)) fun l j h3 h4=>?_);refine fv_need hw h3 fun xZ h5=>fv_bind (results_v hw h hG (i:=j+1) (by omega) h5) fun r k h6 h7=>?_;exact fv_made (fv_pure h6 ⟨rfl,VI.mk (((((vn_name h hi hk).vi.step h h2 (one_nm hq)).snocE h4).step h h5 (one_nm xZ)).snocE h7) (by decide)⟩)
  · refine fv_back ?_
    rw [Nat.add_sub_cancel];exact fv_bind (typeName_v hw h hi) fun x j h2 h3=>fv_made (fv_pure h2 ⟨rfl,VI.mk h3.vi (by decide)⟩)
theorem row_v (hw:WT ts) (h:RT ts) {ends:Tk→Bool} {one:PM (No×Bool)} (hO:∀ j,0<j→j<ts.length→FV ts (VS ts j) one j b) (f:Nat) (hi:i<ts.length) (hv:VI ts lo i0 i out):FV ts (fun j l=>VI ts lo i0 j l) (rowP ts ends one f out) i b:=
  fv_row hw (fun j out=>VI ts lo i0 j out) (fun j out hv hk hj=>hv.step h hj (nm_of hk (by decide))) (fun j out hj hv=>(hO j (by have:=hv.1;omega) hj).up fun k x _ hx=>by
    cases e:x.2 with
    | true=>rw [if_pos rfl];exact hv.snoc h hj (hx.2 e).o
    | false=>rw [if_neg (by decide),hx.1 e];exact hv) f out i hi hv
theorem braced_v (hw:WT ts) (h:RT ts) {one:PM (No×Bool)} (hO:∀ j,0<j→j<ts.length→FV ts (VS ts j) one j b) (hi:i<ts.length) (hv:NM (ap ts i)→i+1<ts.length→VI ts lo i0 (i+1) []):FV ts (fun j l=>VI ts lo i0 j l) (gW ts one) i b:=by
  unfold gW;refine fv_need hw hi fun hq h1=>fv_bind (row_v hw h hO _ h1 (hv (one_nm hq) h1)) fun l j h2 h3=>?_;exact fv_need hw h2 fun xZ h4=>fv_pure h4 (h3.step h h4 (one_nm xZ))
theorem true_vs {x:PM (No×Bool)} (hx:FV ts (fun j x=>x.2=true∧VN ts i j x.1) x i b):FV ts (VS ts i) x i b:=hx.up fun j a _ h=>⟨fun e=>(by rw [h.1] at e;cases e),fun _=>h.2⟩
theorem typ6_v (hw:WT ts) (h:RT ts) (hG:GV ts G) (hi:i<ts.length):FV ts (VN ts i) (qP ts G (ap ts i).fr) i b:=by
  unfold qP;refine fv_takeI hw hi (fun hq h1=>?_) (fv_takeI hw hi (fun hq h1=>?_) fv_bad)
  · exact fv_bind (braced_v hw h (fun j _ hj=>true_vs (element_v hw h hG hj)) h1 fun hk h2=>(VI.nil h hi (one_nm hq)).step h h2 hk) fun l j h2 h3=>fv_mk h2 (VI.mk h3 (by decide))
  · refine fv_bind (hG.typ _ b (by omega) h1) fun t j h2 h3=>?_
    exact fv_need hw h2 fun xZ h4=>fv_mk h4 (VI.mk (((VI.nil h hi (one_nm hq)).snoc h h1 h3.o).step h h4 (one_nm xZ)) (by decide))
theorem typ_v (hw:WT ts) (h:RT ts) (hG:GV ts G) (hi:i<ts.length):FV ts (VN ts i) (pr ts G) i b:=by
  unfold pr;refine fv_now (fv_ite (fun _=>typeName_v hw h hi) fun _=>?_);refine fv_takeI hw hi (fun hq h1=>fv_bind (hG.typ _ b (by omega) h1) fun t j h2 h3=>fv_mk h2 (VI.mk ((VI.nil h hi (one_nm hq)).snoc h h1 h3.o) (by decide))) ?_;refine fv_takeI hw hi (fun hq h1=>fv_need hw h1 fun xZ h2=>fv_bind (hG.typ _ b (by omega) h2) fun t j h3 h4=>fv_mk h3 (VI.mk (((VI.nil h hi (one_nm hq)).step h h2 (one_nm xZ)).snoc h h2 h4.o) (by decide))) ?_;refine fv_takeI hw hi (fun hq h1=>fv_bind (hG.typ _ b (by omega) h1) fun t j h2 h3=>fv_mk h2 (VI.mk ((VI.nil h hi (one_nm hq)).snoc h h1 h3.o) (by decide))) ?_;refine fv_takeI hw hi (fun hq h1=>funcType_v hw h hG (VI.nil h hi (one_nm hq)) (Int.le_refl _) h1) ?_;refine fv_takeI hw hi (fun hq h1=>fv_bind (braced_v hw h (fun j _ hj=>true_vs (field_v hw h hG hj)) h1 fun hk h2=>(VI.nil h hi (one_nm hq)).step h h2 hk) fun l j h2 h3=>fv_mk h2 (VI.mk h3 (by decide))) ?_;exact typ6_v hw h hG hi
end
section
variable {ts:List Tk} {i j k i0:Nat} {b:Bool} {G:Gr} {lo:Int} {out l:List No} {x:No}
theorem compOne_v (hw:WT ts) (h:RT ts) (hG:GV ts G) {u:Unit} (h0:0<i) (hi:i<ts.length):FV ts (fun j x=>VN ts i j x.1) (jm ts G u) i b:=by
  unfold jm;refine fv_now (fv_ahead (fv_ite (fun _=>?_) fun _=>?_))
  · refine fv_name hw hi fun hk h1=>fv_need hw h1 fun hq h2=>?_
    exact fv_bind (hG.expr _ b (by omega) h2) fun x j h3 h4=>fv_made (fv_pure h3 (VI.mk (((vn_name h hi hk).vi.step h h2 (one_nm hq)).snoc h h2 h4.o) (by decide)))
  · exact fv_bind (hG.expr i b h0 hi) fun x j h3 h4=>fv_pure h3 h4
theorem composite_v (hw:WT ts) (h:RT ts) (hG:GV ts G) (hv:VI ts lo i0 i [x]) (dA:(ap ts i0).fr≤lo) (hi:i<ts.length):FV ts (VN ts i0) (cU ts G lo x) i b:=by
  unfold cU;refine fv_need hw hi fun hq h1=>fv_bind (fv_flag (list_v hw h (pre:=[x]) (fun u j hj WU=>compOne_v hw h hG (by omega) WU) _ _ h1 (hv.step h h1 (one_nm hq)))) fun l j h2 h3=>?_;exact fv_need hw h2 fun xZ h4=>fv_mk h4 (VI.mkf (h3.step h h4 (one_nm xZ)) dA (by decide))
theorem opName_v (hw:WT ts) (h:RT ts) (hG:GV ts G) (hi:i<ts.length):FV ts (VN ts i) (gh ts G) i b:=by
  unfold gh;refine fv_name hw hi fun hk h1=>fv_bare (fv_ite (fun _=>fv_pure h1 (vn_name h hi hk)) fun _=>?_);refine fv_isI (fun _=>composite_v hw h hG (vn_name h hi hk).vi (Int.le_refl _) h1) (fun _=>?_);refine fv_is (fv_ahead (fv_ahead (fv_ite (fun _=>?_) fun _=>fv_pure h1 (vn_name h hi hk))));refine fv_back ?_;rw [Nat.add_sub_cancel];exact fv_bind (typeName_v hw h hi) fun x j h2 h3=>composite_v hw h hG h3.vi (Int.le_refl _) h2
theorem block_v (hw:WT ts) (h:RT ts) (hG:GV ts G) (hi:i<ts.length):FV ts (VN ts i) (fG ts G) i b:=by
  unfold fG;exact fv_from (fv_bind (fv_flag (braced_v hw h (fun j hj WU=>hG.stmt j _ hj WU) hi fun hk _=>VI.nil h hi hk)) fun l j h2 h3=>fv_mk h2 (VI.mk h3 (by decide)))
theorem arg_v (hw:WT ts) (h:RT ts) (hG:GV ts G) (h0:0<i) (hi:i<ts.length):FV ts (VN ts i) (sN ts G) i b:=by
  unfold sN;refine fv_isI (fun _=>?_) (fun _=>hG.expr i b h0 hi);refine fv_from (fv_is (fv_bind (hG.typ i b h0 hi) fun t j h1 h2=>?_));refine fv_is (fv_ite (fun _=>?_) fun _=>fv_pure h1 h2);refine fv_bind (composite_v hw h hG h2.vi (Int.le_refl _) h1) fun x j2 h3 h4=>?_;exact fv_bind (hG.suffixes _ _ _ b h4 h3) fun y j3 h5 h6=>hG.binary _ _ _ _ b (by decide) h6 h5
theorem operand_v (hw:WT ts) (h:RT ts) (hG:GV ts G) (hi:i<ts.length):FV ts (VN ts i) (dY ts G) i b:=by
  unfold dY;refine fv_now (fv_ite (fun hk=>?_) fun _=>fv_ite (fun hk=>?_) fun _=>fv_ite (fun _=>opName_v hw h hG hi) fun _=>?_)
  · exact fv_step (fv_mk (hw.nxt i hi (by rw [hk];decide)) (vn_leaf h hi (.inr ⟨rfl,hk⟩)))
  · exact fv_step (fv_mk (hw.nxt i hi (by rw [hk];decide)) (VI.mk (VI.nil h hi (nm_of hk (by decide))) (by decide)))
  refine fv_takeI hw hi (fun hq h1=>?_) (fv_takeI hw hi (fun hq h1=>?_) (fv_isI (fun _=>?_) (fun _=>fv_bad)))
  · refine fv_bind (fv_flag (hG.expr _ _ (by omega) h1)) fun x j h2 h3=>?_
    exact fv_need hw h2 fun xZ h4=>fv_mk h4 (VI.mk (((VI.nil h hi (one_nm hq)).snoc h h1 h3.o).step h h4 (one_nm xZ)) (by decide))
  · refine fv_bind (params_v hw h hG h1) fun a j h2 h3=>?_
    have Zi:=h3.lt;refine fv_bind (results_v hw h hG (by omega) h2) fun r k h4 h5=>?_;exact fv_bind (block_v hw h hG h4) fun c l h6 h7=>fv_mk h6 (VI.mk ((((VI.nil h hi (one_nm hq)).snoc h h1 h3.o).snocE h5).snoc h h4 h7.o) (by decide))
  · exact fv_bind (typ_v hw h hG hi) fun x j h2 h3=>composite_v hw h hG h3.vi (Int.le_refl _) h2
theorem callOne_v (hw:WT ts) (h:RT ts) (hG:GV ts G) {q:Bool} (h0:0<i) (hi:i<ts.length):FV ts (fun j x=>VN ts i j x.1) (jq ts G q) i b:=by
  unfold jq;refine fv_ite (fun _=>fv_bad) fun _=>fv_bind (arg_v hw h hG h0 hi) fun x j h1 h2=>?_;exact fv_take hw h1 (fun hq h3=>fv_pure h3 (h2.fwd h h3 (one_nm hq))) (fun _=>fv_pure h1 h2)
theorem call_v (hw:WT ts) (h:RT ts) (hG:GV ts G) (hv:VI ts x.fr i0 i [x]) (dA:(ap ts i0).fr≤x.fr) (hi:i<ts.length):FV ts (VN ts i0) (li ts G x) i b:=by
  unfold li;refine fv_bind (fv_flag (list_v hw h (pre:=[x]) (fun u j hj WU=>callOne_v hw h hG (by omega) WU) _ _ hi hv)) fun l j h2 h3=>?_;exact fv_need hw h2 fun xZ h4=>fv_mk h4 (VI.mkf (h3.step h h4 (one_nm xZ)) dA (by decide))
theorem suffix_v (hw:WT ts) (h:RT ts) (hG:GV ts G) (hx:VN ts i0 i x) (hi:i<ts.length):FV ts (fun j y=>VN ts i0 j y.1) (eI ts G x) i b:=by
  have hv:=hx.self;have dA:=hx.ok.1;unfold eI;refine fv_takeI hw hi (fun hq h1=>?_) (fv_takeI hw hi (fun hq h1=>?_) (fv_takeI hw hi (fun hq h1=>?_) (fv_pure hi hx)))
  · have hv1:=hv.step h h1 (one_nm hq)
    refine fv_takeI hw h1 (fun xZ h2=>?_) ?_
    · refine fv_bind (hG.typ _ b (by omega) h2) fun t j h3 h4=>?_
      exact fv_need hw h3 fun hq3 h5=>fv_made (fv_pure h5 (VI.mkf (((hv1.step h h2 (one_nm xZ)).snoc h h2 h4.o).step h h5 (one_nm hq3)) dA (by decide)))
    · exact fv_name hw h1 fun hk h2=>fv_made (fv_pure h2 (VI.mkf (hv1.snoc h h1 (vn_name h h1 hk).o) dA (by decide)))
  · refine fv_bind (fv_flag (list_v hw h (pre:=[x]) (fun u j hj WU=>plain_v (arg_v hw h hG (by omega) WU)) _ _ h1 (hv.step h h1 (one_nm hq)))) fun l j h2 h3=>?_
    exact fv_need hw h2 fun hq3 h5=>fv_made (fv_pure h5 (VI.mkf (h3.step h h5 (one_nm hq3)) dA (by decide)))
  · exact fv_bind (call_v hw h hG (hv.step h h1 (one_nm hq)) dA h1) fun y j h2 h3=>fv_pure h2 h3
theorem suffixesL_v (hw:WT ts) (h:RT ts) (hG:GV ts G):∀ (f:Nat) (x:No) (i:Nat),VN ts i0 i x→i<ts.length→FV ts (VN ts i0) (cw ts G f x) i b
  | 0,_,i,_,_=>fun a s' e=>by cases e
  | f+1,x,i,hx,hi=>by
    unfold cw;refine fv_bind (suffix_v hw h hG hx hi) fun y j h1 h2=>fv_ite (fun _=>suffixesL_v hw h hG f y.1 j h2 h1) fun _=>fv_pure h1 h2
theorem suffixes_v (hw:WT ts) (h:RT ts) (hG:GV ts G) (hx:VN ts i0 i x) (hi:i<ts.length):FV ts (VN ts i0) (eT ts G x) i b:=suffixesL_v hw h hG _ x i hx hi
theorem primary_v (hw:WT ts) (h:RT ts) (hG:GV ts G) (hi:i<ts.length):FV ts (VN ts i) (eX ts G) i b:=by
  unfold eX;exact fv_bind (operand_v hw h hG hi) fun x j h1 h2=>suffixes_v hw h hG h2 h1
theorem unary_v (hw:WT ts) (h:RT ts) (hG:GV ts G) (hi:i<ts.length):FV ts (VN ts i) (fY ts G) i b:=by
  unfold fY;refine fv_now (fv_takeI hw hi (fun hq h1=>?_) (primary_v hw h hG hi));exact fv_bind (hG.unary _ b (by omega) h1) fun x j h2 h3=>fv_mk h2 (VI.mk1 ((VI.nil h hi (one_nm hq)).snoc h h1 h3.o) (Nat.le_succ i) h3.o (.inl rfl))
theorem rise_v (hG:GV ts G) (r:Nat):∀ (f:Nat) (y:No) (i:Nat),VN ts i0 i y→i<ts.length→FV ts (VN ts i0) (j8 ts G r f y) i b
  | 0,_,i,_,_=>fun a s' e=>by cases e
  | f+1,y,i,hy,hi=>by
    unfold j8;refine fv_now (fv_ite (fun _=>?_) fun _=>fv_pure hi hy);exact fv_bind (hG.binary y _ _ i b (by omega) hy hi) fun z j h1 h2=>rise_v hG r f z j h2 h1
theorem binaryL_v (hw:WT ts) (h:RT ts) (hG:GV ts G) (r:Nat) (hr:0<r):∀ (f:Nat) (y:No) (i:Nat),VN ts i0 i y→i<ts.length→FV ts (VN ts i0) (eM ts G r f y) i b
  | 0,_,i,_,_=>fun a s' e=>by cases e
  | f+1,y,i,hy,hi=>by
    unfold eM;refine fv_now (fv_ite (fun _=>fv_pure hi hy) fun hk=>?_);(have vA:0<dm (ap ts i):=by omega);have h1:=hw.nxt i hi (FD vA);refine fv_step (fv_bind (hG.unary _ b (by omega) h1) fun x j h2 h3=>?_);refine fv_bind (rise_v hG _ _ _ _ h3 h2) fun z k h4 h5=>?_;exact fv_made (binaryL_v hw h hG r hr f _ k (VI.mkf ((hy.self.step h h1 (rank_nm vA)).snoc h h1 h5.o) hy.ok.1 (by decide)) h4)
theorem binary_v (hw:WT ts) (h:RT ts) (hG:GV ts G) {r:Nat} (hr:0<r) (hx:VN ts i0 i x) (hi:i<ts.length):FV ts (VN ts i0) (js ts G x r) i b:=binaryL_v hw h hG r hr _ x i hx hi
theorem expr_v (hw:WT ts) (h:RT ts) (hG:GV ts G) (hi:i<ts.length):FV ts (VN ts i) (dM ts G) i b:=by
  unfold dM;exact fv_bind (unary_v hw h hG hi) fun x j h1 h2=>binary_v hw h hG (by decide) h2 h1
end
section
variable {ts:List Tk} {i j k i0:Nat} {b:Bool} {G:Gr} {lo:Int} {out l:List No} {x n:No}
theorem opt_v {q:Bool} {x:PM No} {V:Nat→No→Prop} (hi:i<ts.length) (h1:V i bo) (h2:FV ts V x i b):FV ts V (if q=true then pure bo else x) i b:=fv_ite (fun _=>fv_pure hi h1) fun _=>h2
theorem variable_v (hw:WT ts) (h:RT ts) (hG:GV ts G) (hi:i<ts.length) (hk:NM (ap ts i)) (h7:(ap ts i).k≠7):FV ts (VN ts i) (fk ts G) i b:=by
  unfold fk;have h1:=hw.nxt i hi h7;refine fv_next (fv_name hw h1 fun AE h2=>fv_is ?_);have hv:=(VI.nil h hi hk).snoc h h1 (vn_name h h1 AE).o;refine fv_bind (V:=fun j ty=>VI ts (ap ts i).fr i j ([] ++ [_] ++ [ty])) (opt_v h2 hv.none ((typ_v hw h hG h2).up fun j t _ ht=>hv.snoc h h2 ht.o)) fun ty j h3 h4=>?_;refine fv_take hw h3 (fun hq h5=>?_) (fun _=>?_)
  · rw [if_pos rfl]
    exact fv_bind (expr_v hw h hG h5) fun x k h6 h7=>fv_mk h6 (VI.mk ((h4.step h h5 (one_nm hq)).snoc h h5 h7.o) (by decide))
  · rw [if_neg (by decide)]
    exact fv_bind (V:=fun j x=>VI ts (ap ts i).fr i j ([] ++ [_] ++ [ty] ++ [x])) (fv_pure h3 h4.none) fun x k h6 h7=>fv_mk h6 (VI.mk h7 (by decide))
theorem constant_v (hw:WT ts) (h:RT ts) (hG:GV ts G) (hi:i<ts.length) (hk:NM (ap ts i)) (h7:(ap ts i).k≠7):FV ts (VN ts i) (fx ts G) i b:=by
  unfold fx;have h1:=hw.nxt i hi h7;refine fv_next (fv_name hw h1 fun AE h2=>fv_is ?_);have hv:=(VI.nil h hi hk).snoc h h1 (vn_name h h1 AE).o;refine fv_bind (V:=fun j ty=>VI ts (ap ts i).fr i j ([] ++ [_] ++ [ty])) (opt_v h2 hv.none ((typ_v hw h hG h2).up fun j t _ ht=>hv.snoc h h2 ht.o)) fun ty j h3 h4=>?_;refine fv_need hw h3 fun hq h5=>?_;exact fv_bind (expr_v hw h hG h5) fun x k h6 h7=>fv_mk h6 (VI.mk ((h4.step h h5 (one_nm hq)).snoc h h5 h7.o) (by decide))
theorem called_v (hw:WT ts) (h:RT ts) (hG:GV ts G) {kd:Int} (WQ:KO kd) (hv:VI ts (ap ts i0).fr i0 i []) (hi:i<ts.length):FV ts (VN ts i0) (jp ts G kd (ap ts i0).fr) i b:=by
  unfold jp;exact fv_bind (primary_v hw h hG hi) fun x j h1 h2=>fv_ite (fun _=>fv_mk h1 (VI.mk (hv.snoc h hi h2.o) WQ)) fun _=>fv_bad
theorem more_v (hw:WT ts) (h:RT ts) (hG:GV ts G):∀ (f:Nat) (l:List No) (i:Nat),VR ts i0 i l→i<ts.length→FV ts (VR ts i0) (jb ts G f l) i b
  | 0,_,i,_,_=>fun a s' e=>by cases e
  | f+1,l,i,hl,hi=>by
    unfold jb;refine fv_takeI hw hi (fun hq h1=>?_) (fv_pure hi hl);exact fv_bind (expr_v hw h hG h1) fun x j h2 h3=>more_v hw h hG f _ j (hl.snoc h h1 (one_nm hq) h3) h2
theorem exprs_v (hw:WT ts) (h:RT ts) (hG:GV ts G) (hi:i<ts.length):FV ts (VR ts i) (gI ts G) i b:=by
  unfold gI;exact fv_bind (expr_v hw h hG hi) fun x j h1 h2=>more_v hw h hG _ _ j h2.vr h1
def VOr (ts:List Tk) {σ:Type} (O:Nat→σ→Prop) (i j:Nat):No ⊕ σ→Prop
  | .inl n=>VN ts i j n
  | .inr u=>O j u
def VOpt {σ:Type} (O:Nat→σ→Prop) (m j:Nat):Option σ→Prop
  | none=>j=m
  | some u=>O j u
theorem simpleOr_v (hw:WT ts) (h:RT ts) (hG:GV ts G) (hi:i<ts.length) {σ:Type} {I2:List No→PM (Option σ)} (O:Nat→σ→Prop) (ho:∀ l j,VR ts i j l→j+1<ts.length→NM (ap ts j)→FV ts (VOpt O (j+1)) (I2 l) (j+1) b):FV ts (VOr ts O i) (dx ts G I2) i b:=by
  unfold dx;refine fv_from (fv_bind (exprs_v hw h hG hi) fun l j h1 h2=>fv_now ?_);refine fv_ite (fun hq=>?_) fun _=>fv_ite (fun hq=>?_) fun _=>fv_ite (fun hq=>?_) fun _=>fv_ite (fun hq=>?_) fun _=>fv_ite (fun hq=>?_) fun _=>fv_ite (fun hq=>?_) fun _=>fv_bad
  · have h3:=hw.nxt j h1 (cF hq.2)
    exact fv_step (fv_bind (expr_v hw h hG h3) fun x k h4 h5=>fv_made (fv_pure h4 (VI.mk (((h2.one hq.1).vi.step h h3 (one_nm hq.2)).snoc h h3 h5.o) (by decide))))
  · have h3:=hw.nxt j h1 (cF hq)
    refine fv_step (fv_bind (expr_v hw h hG h3) fun x k h4 h5=>?_);exact fv_bind (more_v hw h hG _ _ k h5.vr h4) fun r n h6 h7=>fv_made (fv_pure h6 (VI.mk ((h2.several.vi.step h h3 (one_nm hq)).snoc h h3 h7.several.o) (by decide)))
  · have h3:=hw.nxt j h1 (cF hq.2)
    exact fv_step (fv_bind (expr_v hw h hG h3) fun x k h4 h5=>fv_made (fv_pure h4 (VI.mk ((h2.several.vi.step h h3 (one_nm hq.2)).snoc h h3 h5.vr.several.o) (by decide))))
  · have h3:=hw.nxt j h1 (cF hq.2)
    exact fv_step (fv_made (fv_pure h3 (VI.mk ((h2.one hq.1).vi.step h h3 (one_nm hq.2)) (by decide))))
  · have h3:=hw.nxt j h1 (cF hq.2)
    refine fv_step (fv_bind (ho l _ h2 h3 (one_nm hq.2)) fun o k h4 h5=>?_);cases o with
    | some u=>exact fv_pure h4 h5
    | none=>
      obtain rfl:k=j+1:=h5;exact fv_bind (exprs_v hw h hG h4) fun r n h6 h7=>fv_made (fv_pure h6 (VI.mk ((h2.several.vi.step h h3 (one_nm hq.2)).snoc h h3 h7.several.o) (by decide)))
  · exact fv_made (fv_pure h1 (VI.mk1 (h2.one hq).vi (Nat.le_refl _) (h2.one hq).o (.inr rfl)))
theorem simple_v (hw:WT ts) (h:RT ts) (hG:GV ts G) (hi:i<ts.length):FV ts (VN ts i) (gg ts G) i b:=by
  unfold gg;refine fv_bind (simpleOr_v hw h hG hi (fun _ _=>False) fun l j _ h _=>fv_pure h rfl) fun x j h1 h2=>fv_pure h1 ?_;cases x with
  | inl n=>exact h2
  | inr u=>exact h2.elim
theorem ifHead_v (hw:WT ts) (h:RT ts) (hG:GV ts G) (hv:VI ts lo i0 i []) (hi:i<ts.length):FV ts (fun j x=>VI ts lo i0 j [x.1,x.2]) (jX ts G) i b:=by
  unfold jX;refine fv_bind (simple_v hw h hG hi) fun n j h1 h2=>fv_now (fv_ite (fun hq=>?_) fun _=>fv_ite (fun hk=>?_) fun _=>fv_bad)
  · have h3:=hw.nxt j h1 (by rw [hq];decide)
    exact fv_step (fv_bind (expr_v hw h hG h3) fun x k h4 h5=>fv_pure h4 (((hv.snoc h hi h2.o).step h h3 (nm_of hq (by decide))).snoc h h3 h5.o))
  · exact fv_pure h1 (hv.none.snoc h hi (h2.kid (.inr hk)))
theorem branch_v (hw:WT ts) (h:RT ts) (hG:GV ts G) (hi:i<ts.length) (hq:oneOf (ap ts i) [⟨#[105,102]⟩]=true):FV ts (VN ts i) (jr ts G) i b:=by
  unfold jr;have h1:=hw.nxt i hi (cF hq);refine fv_next (fv_bind (fv_flag (ifHead_v hw h hG (VI.nil h hi (one_nm hq)) h1)) fun hd j h2 h3=>?_);refine fv_bind (block_v hw h hG h2) fun c k h4 h5=>?_;have hv:=h3.snoc h h2 h5.o;refine fv_takeI hw h4 (fun xZ h6=>?_) (fv_mk h4 (VI.mk hv.none (by decide)));have hv2:=hv.step h h6 (one_nm xZ);refine fv_now (fv_ite (fun hq3=>?_) fun _=>fv_ite (fun _=>?_) fun _=>fv_bad)
  · exact fv_bind (hG.branch _ b (by omega) h6 hq3) fun o n h7 h8=>fv_mk h7 (VI.mk (hv2.snoc h h6 h8.o) (by decide))
  · exact fv_bind (block_v hw h hG h6) fun o n h7 h8=>fv_mk h7 (VI.mk (hv2.snoc h h6 h8.o) (by decide))
theorem ranged_v (hw:WT ts) (h:RT ts) (hG:GV ts G) (hv:VI ts lo i0 i [l.getD 0 bo,l.getD 1 bo]) (hi:i<ts.length):FV ts (VI ts lo i0) (gU ts G l) i b:=by
  unfold gU;exact fv_need hw hi fun hq h1=>fv_bind (expr_v hw h hG h1) fun x j h2 h3=>fv_pure h2 ((hv.step h h1 (one_nm hq)).snoc h h1 h3.o)
theorem two_v (h:RT ts) (hv:VI ts lo i0 i []) (hi:i<ts.length) (hl:VR ts i j l) (h2:l.length≤2):VI ts lo i0 j [l.getD 0 bo,l.getD 1 bo]:=by
  have h1:=hv.app h hi hl;obtain ⟨x,t,rfl,-⟩:=hl
  match t,h2 with
  | [],_=>exact h1.none
  | [y],_=>exact h1
  | y :: z :: t,h2=>simp at h2
theorem forOr_v (hw:WT ts) (h:RT ts) (hG:GV ts G) (hv:l.length≤2→VI ts lo i0 i [l.getD 0 bo,l.getD 1 bo]) (hi:i<ts.length):FV ts (VOpt (VI ts lo i0) i) (mC ts G l) i b:=by
  unfold mC;refine fv_is (fv_ite (fun hq=>?_) fun _=>fv_pure hi rfl);exact fv_bind (ranged_v hw h hG (hv hq.1) hi) fun r j h1 h2=>fv_pure h1 h2
def VH (ts:List Tk) (lo:Int) (i0 j:Nat):(No×No×No) ⊕ List No→Prop
  | .inl x=>VI ts lo i0 j [x.1,x.2.1,x.2.2]
  | .inr r=>VI ts lo i0 j r
theorem forTail_v (hw:WT ts) (h:RT ts) (hG:GV ts G) (hv:VI ts lo i0 i [n]) (hi:i<ts.length):FV ts (VH ts lo i0) (gG ts G n) i b:=by
  unfold gG;refine fv_semi hw hi fun hk h1=>fv_now ?_;have hv1:=hv.step h h1 (nm_of hk (by decide));refine fv_bind (V:=fun j c=>VI ts lo i0 j ([n] ++ [c])) (fv_ite (fun _=>fv_pure h1 hv1.none) fun _=>(expr_v hw h hG h1).up fun j t _ ht=>hv1.snoc h h1 ht.o) fun c j h2 h3=>?_;refine fv_semi hw h2 fun fT h4=>fv_is ?_;have hv2:=h3.step h h4 (nm_of fT (by decide));exact fv_bind (V:=fun j s=>VI ts lo i0 j ([n] ++ [c] ++ [s])) (opt_v h4 hv2.none ((simple_v hw h hG h4).up fun j t _ ht=>hv2.snoc h h4 ht.o)) fun s k h5 h6=>fv_pure h5 h6
theorem forHead_v (hw:WT ts) (h:RT ts) (hG:GV ts G) (hv:VI ts lo i0 i []) (hi:i<ts.length):FV ts (VH ts lo i0) (il ts G) i b:=by
  unfold il;refine fv_now (fv_ite (fun _=>fv_pure hi hv.none.none.none) fun _=>fv_ite (fun _=>?_) fun _=>fv_ite (fun _=>forTail_v hw h hG hv.none hi) fun _=>?_)
  · exact fv_bind (ranged_v hw h hG (l:=[]) hv.none.none hi) fun r j h1 h2=>fv_pure h1 h2
  · refine fv_bind (simpleOr_v hw h hG hi (VI ts lo i0) fun l j hl h2 hk=>forOr_v hw h hG (fun hn=>(two_v h hv hi hl hn).step h h2 hk) h2) fun x j h1 h2=>?_
    cases x with
    | inr r=>exact fv_pure h1 h2
    | inl n=>exact fv_now (fv_ite (fun _=>forTail_v hw h hG (hv.snoc h hi h2.o) h1) fun _=>fv_ite (fun hk=>fv_pure h1 (hv.none.snoc h hi (h2.kid (.inr hk))).none) fun _=>fv_bad)
theorem loop_v (hw:WT ts) (h:RT ts) (hG:GV ts G) (hv:VI ts (ap ts i0).fr i0 i []) (hi:i<ts.length):FV ts (VN ts i0) (pQ ts G (ap ts i0).fr) i b:=by
  unfold pQ;refine fv_bind (fv_flag (forHead_v hw h hG hv hi)) fun hd j h1 h2=>?_;refine fv_bind (block_v hw h hG h1) fun c k h3 h4=>?_;cases hd with
  | inr r=>exact fv_mk h3 (VI.mk (h2.snoc h h1 h4.o) (by decide))
  | inl x=>exact fv_mk h3 (VI.mk (h2.snoc h h1 h4.o) (by decide))
theorem caseOne_v (hw:WT ts) (h:RT ts) (hG:GV ts G) {kd:Int} (WQ:KO kd) {head:PM No} (hh:∀ j b,0<j→j<ts.length→FV ts (VN ts j) head j b) (hi:i<ts.length):FV ts (VN ts i) (jo ts G kd head) i b:=by
  unfold jo
  have tail:∀ (hd:No) j,VI ts (ap ts i).fr i j [hd]→j<ts.length→FV ts (VN ts i) (do
      let c ← cE ts ⟨#[58]⟩
      let l ← rowP ts lO G.stmt (ts.length+1) []
      pure (No.mk kd (ap ts i).fr (kr c.to l) ⟨#[]⟩ (hd :: l))) j b:=fun hd j h1 h2=>
    fv_need hw h2 fun hq h3=>fv_bind (fv_row hw (fun k out=>VL ts (ap ts j).to (j+1) k out) (fun k out hv hk hj=>hv.step h hj (nm_of hk (by decide))) (fun k out hj hv=>(hG.stmt k b (by have:=hv.1;omega) hj).up fun m x _ hx=>by
        cases e:x.2 with
        | true=>rw [if_pos rfl];exact hv.snoc h hj (hx.2 e)
        | false=>rw [if_neg (by decide),hx.1 e];exact hv) _ [] (j+1) h3 (VL.nil (by omega) (Int.le_refl _))) fun l m h4 h5=>fv_pure h4 (by
      have hv:=h1.step h h3 (one_nm hq);have e:kr (ap ts j).to l=endL (ap ts j).to l:=rfl;rw [e]
      refine ⟨⟨by have:=h1.1;have:=h5.1;omega,okN_mk WQ.1 (KL.app (l:=[hd]) hv.2.1 h5.2.2.1) (Int.le_refl _) h5.2.2.2.1,?_,by
        obtain ⟨e9,g1,-,g3⟩:=hv.2.2.2
        exact ((g3.app h5.2.2.2.2.2).wide (e':=e9) (d':=m - i) (by omega) (by have:=h1.1;have:=h5.1;omega)).mk g1 (by have:=h1.1;have:=h5.1;omega)⟩,WQ.1,h5.2.2.2.1,fun h=>h.elim (fun h=>absurd h WQ.2.2.2.1) fun h=>absurd h WQ.2.2.2.2⟩
      rw [nmN_mk WQ.2.1 WQ.2.2.1]
      show nmL ([hd] ++ l)=_
      rw [nmL_app,hv.2.2.1,h5.2.2.2.2.1,tks_app (by have:=h1.1;omega) h5.1])
  refine fv_from (fv_take hw hi (fun hq h1=>?_) (fun _=>?_))
  · rw [if_pos rfl]
    exact fv_bind (V:=fun j hd=>VI ts (ap ts i).fr i j [hd]) (fv_pure h1 (VI.nil h hi (one_nm hq)).none) fun hd j h1 h2=>tail hd j h2 h1
  · rw [if_neg (by decide)]
    exact fv_bind (V:=fun j hd=>VI ts (ap ts i).fr i j [hd]) (fv_need hw hi fun hq h2=>(hh (i+1) b (by omega) h2).up fun j hd _ hn=>(VI.nil h hi (one_nm hq)).snoc h h2 hn.o) fun hd j h1 h2=>tail hd j h2 h1
theorem casesL_v (hw:WT ts) (h:RT ts) (hG:GV ts G) {kd:Int} (WQ:KO kd) {head:PM No} (hh:∀ j b,0<j→j<ts.length→FV ts (VN ts j) head j b) {pre:List No}:∀ (f:Nat) (out:List No) (i:Nat),VI ts lo i0 i (pre ++ out)→i<ts.length→FV ts (fun j l=>VI ts lo i0 j (pre ++ l)) (jn ts G kd head f out) i b
  | 0,_,i,_,_=>fun a s' e=>by cases e
  | f+1,out,i,hv,hi=>by
    unfold jn;refine fv_isI (fun _=>fv_pure hi hv) (fun _=>?_);exact fv_bind (caseOne_v hw h hG WQ hh hi) fun x j h1 h2=>casesL_v hw h hG WQ hh f _ j (by rw [← List.append_assoc];exact hv.snoc h hi h2.o) h1
theorem cases_v (hw:WT ts) (h:RT ts) (hG:GV ts G) {kd:Int} (WQ:KO kd) {head:PM No} (hh:∀ j b,0<j→j<ts.length→FV ts (VN ts j) head j b) {pre:List No} (hv:VI ts lo i0 i pre) (hi:i<ts.length):FV ts (fun j l=>VI ts lo i0 j (pre ++ l)) (jO ts G kd head) i b:=by
  unfold jO;refine fv_need hw hi fun hq h1=>fv_bind (fv_flag (casesL_v hw h hG WQ hh _ [] (i+1) (by rw [List.append_nil];exact hv.step h h1 (one_nm hq)) h1)) fun l j h2 h3=>?_;exact fv_need hw h2 fun xZ h4=>fv_pure h4 (h3.step h h4 (one_nm xZ))
theorem several_v (hw:WT ts) (h:RT ts) (hG:GV ts G) (hi:i<ts.length):FV ts (VN ts i) (gq ts G) i b:=by
  unfold gq;exact fv_bind (exprs_v hw h hG hi) fun l j h1 h2=>fv_pure h1 h2.several
theorem choice_v (hw:WT ts) (h:RT ts) (hG:GV ts G) (hv:VI ts (ap ts i0).fr i0 i []) (hi:i<ts.length):FV ts (VN ts i0) (jZ ts G (ap ts i0).fr) i b:=by
  unfold jZ;refine fv_bind (fv_flag (expr_v hw h hG hi)) fun x j h1 h2=>?_;exact fv_bind (cases_v hw h hG (by decide) (fun k b _ hk=>several_v hw h hG hk) (pre:=[x]) (hv.snoc h hi h2.o) h1) fun l k h3 h4=>fv_mk h3 (VI.mk h4 (by decide))
theorem comm_v (hw:WT ts) (h:RT ts) (hG:GV ts G) (hi:i<ts.length):FV ts (VN ts i) (oL ts G) i b:=by
  unfold oL;refine fv_from (fv_now (fv_ahead (fv_ite (fun _=>?_) fun _=>?_)))
  · have tail:∀ (n m:No) j,VI ts (ap ts i).fr i j [n,m]→j<ts.length→FV ts (VN ts i) (do
        let _ ← cE ts ⟨#[58,61]⟩
        let _ ← cE ts ⟨#[60,45]⟩
        let x ← fY ts G
        bd ts 79 (ap ts i).fr ⟨#[]⟩ [n,m,x]) j b:=fun n m j h1 h2=>
      fv_need hw h2 fun hq h3=>fv_need hw h3 fun xZ h4=>fv_bind (unary_v hw h hG h4) fun x k h5 h6=>fv_mk h5 (VI.mk (((h1.step h h3 (one_nm hq)).step h h4 (one_nm xZ)).snoc h h4 h6.o) (by decide))
    refine fv_name hw hi fun hk h1=>?_;have hv:=(vn_name h hi hk).vi;refine fv_take hw h1 (fun hq h2=>?_) (fun _=>?_)
    · rw [if_pos rfl]
      exact fv_name hw h2 fun fT h3=>tail _ _ _ ((hv.step h h2 (one_nm hq)).snoc h h2 (vn_name h h2 fT).o) h3
    · rw [if_neg (by decide)]
      exact fv_bind (V:=fun j m=>VI ts (ap ts i).fr i j ([_] ++ [m])) (fv_pure h1 hv.none) fun m j h3 h4=>tail _ m j h4 h3
  · refine fv_bind (expr_v hw h hG hi) fun x j h1 h2=>fv_takeI hw h1 (fun hq h3=>?_) (fv_ite (fun hk=>fv_mk h1 (VI.mk (h2.kid (.inl hk.1)).vi.cons_none.cons_none (by decide))) fun _=>fv_bad)
    exact fv_bind (expr_v hw h hG h3) fun y k h4 h5=>fv_mk h4 (VI.mk ((h2.vi.step h h3 (one_nm hq)).snoc h h3 h5.o) (by decide))
theorem comms_v (hw:WT ts) (h:RT ts) (hG:GV ts G) (hv:VI ts (ap ts i0).fr i0 i []) (hi:i<ts.length):FV ts (VN ts i0) (mc ts G (ap ts i0).fr) i b:=by
  unfold mc;exact fv_bind (cases_v hw h hG (by decide) (fun k b _ hk=>comm_v hw h hG hk) (pre:=[]) hv hi) fun l k h3 h4=>fv_mk h3 (VI.mk h4 (by decide))
theorem ok_v {x:PM No} (hx:FV ts (VN ts i0) x i b):FV ts (VS ts i0) (pw x) i b:=fv_bind hx fun _ _ h1 h2=>fv_pure h1 ⟨fun e=>(by cases e),fun _=>h2⟩
theorem stmt2_v (hw:WT ts) (h:RT ts) (hG:GV ts G) (hi:i<ts.length):FV ts (VS ts i) (mP ts G (ap ts i).fr) i b:=by
  unfold mP;refine fv_takeI hw hi (fun hq h1=>ok_v (fv_mk h1 (VI.mk (VI.nil h hi (one_nm hq)) (by decide)))) ?_;refine fv_takeI hw hi (fun hq h1=>ok_v (fv_mk h1 (VI.mk (VI.nil h hi (one_nm hq)) (by decide)))) ?_;refine fv_isI (fun hq=>ok_v (branch_v hw h hG hi hq)) (fun _=>?_);refine fv_takeI hw hi (fun hq h1=>ok_v (loop_v hw h hG (VI.nil h hi (one_nm hq)) h1)) ?_;refine fv_takeI hw hi (fun hq h1=>ok_v (choice_v hw h hG (VI.nil h hi (one_nm hq)) h1)) ?_;refine fv_takeI hw hi (fun hq h1=>ok_v (comms_v hw h hG (VI.nil h hi (one_nm hq)) h1)) ?_;exact ok_v (simple_v hw h hG hi)
theorem stmt_v (hw:WT ts) (h:RT ts) (hG:GV ts G) (hi:i<ts.length):FV ts (VS ts i) (pL ts G) i b:=by
  unfold pL
  refine fv_now (fv_ite (fun _=>fv_pure hi ⟨fun _=>rfl,fun e=>(by cases e)⟩) fun _=>fv_ite (fun hq=>ok_v (variable_v hw h hG hi (one_nm hq) (cF hq))) fun _=>fv_ite (fun hq=>ok_v (constant_v hw h hG hi (one_nm hq) (cF hq))) fun _=>
    fv_ite (fun _=>ok_v (block_v hw h hG hi)) fun _=>?_)
  refine fv_takeI hw hi (fun hq h1=>ok_v (called_v hw h hG (by decide) (VI.nil h hi (one_nm hq)) h1)) ?_;refine fv_takeI hw hi (fun hq h1=>ok_v (called_v hw h hG (by decide) (VI.nil h hi (one_nm hq)) h1)) ?_;refine fv_takeI hw hi (fun hq h1=>?_) (stmt2_v hw h hG hi);have hv:=VI.nil h hi (one_nm hq);exact fv_now (fv_bind (V:=fun j l=>VI ts (ap ts i).fr i j l) (fv_ite (fun _=>(exprs_v hw h hG h1).up fun j l _ hl=>hv.app h h1 hl) fun _=>fv_pure h1 hv) fun l j h2 h3=>ok_v (fv_mk h2 (VI.mk h3 (by decide))))
end
theorem gr_v {ts:List Tk} (hw:WT ts) (h:RT ts):∀ (n:Nat),GV ts (gr ts n)
  | 0=>⟨fun i b _ _ a s' e=>(by cases e),fun i b _ _ a s' e=>(by cases e),fun i b _ _ a s' e=>(by cases e),fun x r i0 i b _ _ _ a s' e=>(by cases e),fun x i0 i b _ _ a s' e=>(by cases e),fun i b _ _ a s' e=>(by cases e),fun i b _ _ _ a s' e=>(by cases e)⟩
  | n+1=>by
    have ih:=gr_v hw h n
    exact ⟨fun i b _ h2=>typ_v hw h ih h2,fun i b _ h2=>expr_v hw h ih h2,fun i b _ h2=>unary_v hw h ih h2,fun x r i0 i b h0 h1 h2=>binary_v hw h ih h0 h1 h2,
      fun x i0 i b h1 h2=>suffixes_v hw h ih h1 h2,fun i b _ h2=>stmt_v hw h ih h2,fun i b _ h2 h3=>branch_v hw h ih h2 h3⟩
section
variable {ts:List Tk} {i j k i0:Nat} {k':Int} {l':List ByteArray} {b:Bool} {G:Gr} {lo:Int} {out l:List No} {x n:No}
theorem or_v (hw:WT ts) (h:RT ts) (hG:GV ts G):∀ (f:Nat) (l:List No) (i:Nat),VR ts i0 i l→i<ts.length→FV ts (VR ts i0) (C4 ts G f l) i b
  | 0,_,i,_,_=>fun a s' e=>by cases e
  | f+1,l,i,hl,hi=>by
    unfold C4;refine fv_takeI hw hi (fun hq h1=>?_) (fv_pure hi hl);exact fv_bind (typ_v hw h hG h1) fun x j h2 h3=>or_v hw h hG f _ j (hl.snoc h h1 (one_nm hq) h3) h2
theorem typeParam_v (hw:WT ts) (h:RT ts) (hG:GV ts G) (hi:i<ts.length):FV ts (VN ts i) (eA ts G) i b:=by
  unfold eA;refine fv_from (fv_name hw hi fun hk h1=>fv_from (fv_bind (typ_v hw h hG h1) fun x j h2 h3=>?_));refine fv_bind (or_v hw h hG _ _ j h3.vr h2) fun l k h4 h5=>?_;refine fv_bind (V:=fun k c=>VN ts (i+1) k c) (fv_ite (fun _=>fv_mk h4 (VI.mk h5.vi (by decide))) (fun hn=>fv_pure h4 (h5.one ?_))) fun c n h6 h7=>fv_mk h6 (VI.mk ((vn_name h hi hk).vi.snoc h h1 h7.o) (by decide));obtain ⟨x,t,rfl,-⟩:=h5;simp only [List.length_cons] at hn ⊢;omega
theorem recv_v (hw:WT ts) (h:RT ts) (hi:i<ts.length) (hq:oneOf (ap ts i) l'=true):FV ts (VN ts i) (pN ts) i b:=by
  unfold pN;have h1:=hw.nxt i hi (cF hq);refine fv_next (fv_name hw h1 fun AE h2=>fv_from ?_);have hv:=(VI.nil h hi (one_nm hq)).snoc h h1 (vn_name h h1 AE).o;refine fv_take hw h2 (fun xZ h3=>?_) (fun _=>?_)
  · refine fv_name hw h3 fun GW h4=>?_
    rw [if_pos rfl];refine fv_made (fv_need hw h4 fun hq4 h5=>fv_mk h5 (VI.mk ((hv.snoc h h2 (VI.mk (k:=21) (x:=⟨#[]⟩) ((VI.nil h h2 (one_nm xZ)).snoc h h3 (vn_name h h3 GW).o) (by decide)).o).step h h5 (one_nm hq4)) (by decide)))
  · refine fv_name hw h2 fun GW h4=>?_
    rw [if_neg (by decide)];refine fv_bind (V:=fun j t=>VI ts (ap ts i).fr i j ([] ++ [_] ++ [t])) (fv_pure h4 (hv.snoc h h2 (vn_name h h2 GW).o)) fun t j h5 h6=>?_;exact fv_need hw h5 fun hq4 h7=>fv_mk h7 (VI.mk (h6.step h h7 (one_nm hq4)) (by decide))
theorem tparams_v (hw:WT ts) (h:RT ts) (hG:GV ts G) (hi:i<ts.length) (hq:oneOf (ap ts i) l'=true):FV ts (VN ts i) (iY ts G) i b:=by
  unfold iY;have h1:=hw.nxt i hi (cF hq);refine fv_next (fv_bind (list_v hw h (pre:=[]) (fun u j hj WU=>plain_v (typeParam_v hw h hG WU)) _ _ h1 (VI.nil h hi (one_nm hq))) fun l j h2 h3=>?_);exact fv_need hw h2 fun xZ h4=>fv_mk h4 (VI.mk (h3.step h h4 (one_nm xZ)) (by decide))
theorem function_v (hw:WT ts) (h:RT ts) (hG:GV ts G) (hi:i<ts.length) (hq:oneOf (ap ts i) l'=true):FV ts (VN ts i) (fV ts G) i b:=by
  unfold fV;have h1:=hw.nxt i hi (cF hq);have hv:=VI.nil h hi (one_nm hq)
  have tail:∀ (r n t:No) j,VI ts (ap ts i).fr i j [r,n,t]→j<ts.length→FV ts (VN ts i) (do
      let a ← iu ts G
      let q ← eW ts G
      let c ← fG ts G
      bd ts 3 (ap ts i).fr ⟨#[]⟩ [r,n,t,a,q,c]) j b:=fun r n t j h2 h3=>
    fv_bind (params_v hw h hG h3) fun a k h4 h5=>fv_bind (results_v hw h hG (by have:=h5.lt;omega) h4) fun q l h6 h7=>fv_bind (block_v hw h hG h6) fun c o h8 h9=>fv_mk h8 (VI.mk (((h2.snoc h h3 h5.o).snocE h7).snoc h h6 h9.o) (by decide))
  refine fv_next (fv_is (fv_bind (V:=fun j r=>VI ts (ap ts i).fr i j [r]) (fv_ite (fun hr=>(recv_v hw h h1 hr).up fun j r _ hr=>hv.snoc h h1 hr.o) fun _=>fv_pure h1 hv.none) fun r j h2 h3=>?_));refine fv_name hw h2 fun Nq h4=>fv_is ?_;have hv2:=h3.snoc h h2 (vn_name h h2 Nq).o;exact fv_bind (V:=fun j t=>VI ts (ap ts i).fr i j ([r] ++ [_] ++ [t])) (fv_ite (fun hr=>(tparams_v hw h hG h4 hr.2).up fun j t _ ht=>hv2.snoc h h4 ht.o) fun _=>fv_pure h4 hv2.none) fun t k h5 h6=>tail r _ t k h6 h5
theorem decl_v (hw:WT ts) (h:RT ts) (hG:GV ts G) (hi:i<ts.length):FV ts (VN ts i) (pW ts G) i b:=by
  unfold pW;refine fv_now (fv_ite (fun hq=>function_v hw h hG hi hq) fun _=>fv_ite (fun hq=>variable_v hw h hG hi (one_nm hq) (cF hq)) fun _=>fv_ite (fun hq=>constant_v hw h hG hi (one_nm hq) (cF hq)) fun _=>fv_ite (fun hq=>?_) fun _=>fv_bad);have h1:=hw.nxt i hi (cF hq);exact fv_step (fv_name hw h1 fun hk h2=>fv_bind (typ_v hw h hG h2) fun x j h3 h4=>fv_mk h3 (VI.mk (((VI.nil h hi (one_nm hq)).snoc h h1 (vn_name h h1 hk).o).snoc h h2 h4.o) (by decide)))
def VF (ts:List Tk) (lo:Int) (j:Nat) (x:List No×Int):Prop:=0<j∧KL lo x.1 x.2∧x.2≤(ap ts (j - 1)).to∧nmL x.1=tks ts 0 j∧BL x.1 0 j
theorem VF.step (h:RT ts) (hv:VF ts lo j (l,k')) (hj:j+1<ts.length) (hk:NM (ap ts j)):VF ts lo (j+1) (l,k'):=
  ⟨by omega,hv.2.1,Int.le_trans hv.2.2.1 (Int.le_trans (h.en hv.1 (by omega)) (h.wid j (by omega)).2),by rw [hv.2.2.2.1,tks_step (Nat.zero_le _) hk],hv.2.2.2.2.wide (Nat.le_refl _) (by omega)⟩
theorem VF.snoc (h:RT ts) (hv:VF ts lo i (l,k')) (hi:i<ts.length) (hn:VN ts i j n):VF ts lo j (l ++ [n],(ap ts (j - 1)).to):=
  ⟨by have:=hn.lt;omega,kl_snoc hv.2.1 hn.o.2.1 (Int.le_trans hv.2.2.1 (h.en hv.1 hi)),Int.le_refl _,by
    show nmL (l ++ [n])=_
    rw [nmL_app,nmL_one,hn.o.2.2.1,← tks_app (Nat.zero_le i) (Nat.le_of_lt hn.lt)]
    exact congrArg (· ++ _) hv.2.2.2.1,(hv.2.2.2.2.app hn.o.2.2.2.bl).wide (Nat.le_refl _) (by have:=hn.lt;omega)⟩
theorem imports_v (hw:WT ts) (h:RT ts):∀ (f:Nat) (l:List No) (to:Int) (i:Nat),VF ts lo i (l,to)→i<ts.length→FV ts (VF ts lo) (eE ts f l to) i b
  | 0,_,_,i,_,_=>fun a s' e=>by cases e
  | f+1,l,to,i,hv,hi=>by
    unfold eE;refine fv_isI (fun hq=>?_) (fun _=>fv_pure hi hv);have h1:=hw.nxt i hi (cF hq);refine fv_next (fv_now (fv_ite (fun hk=>?_) fun _=>fv_bad));have h2:=hw.nxt _ h1 (by rw [hk];decide);refine fv_step (fv_made (fv_to (fv_semi hw h2 fun GW h3=>imports_v hw h f _ _ (i+1+1+1) ?_ h3)));exact (hv.snoc h hi (VI.mk ((VI.nil h hi (one_nm hq)).step h h2 (nm_of hk (by decide))) (by decide))).step h h3 (nm_of GW (by decide))
theorem decls_v (hw:WT ts) (h:RT ts) (hG:GV ts G):∀ (f:Nat) (l:List No) (to:Int) (i:Nat),VF ts lo i (l,to)→i<ts.length→FV ts (fun j x=>VF ts lo j x∧(ap ts j).k=7) (iE ts G f l to) i b
  | 0,_,_,i,_,_=>fun a s' e=>by cases e
  | f+1,l,to,i,hv,hi=>by
    unfold iE;refine fv_now (fv_ite (fun hk=>fv_pure hi ⟨hv,hk⟩) fun _=>?_);exact fv_bind (decl_v hw h hG hi) fun x j h1 h2=>fv_to (fv_semi hw h1 fun GW h3=>decls_v hw h hG f _ _ (j+1) ((hv.snoc h hi h2).step h h3 (nm_of GW (by decide))) h3)
theorem file_v (hw:WT ts) (h:RT ts) (hG:GV ts G) (hi:0<ts.length):FV ts (fun j n=>n.k=1∧nestN n=true∧nmN n=tks ts 0 j∧(ap ts j).k=7∧BN n j) (mE ts G) 0 b:=by
  unfold mE;refine fv_need hw hi fun hq h1=>fv_name hw h1 fun AE h2=>fv_to (fv_semi hw h2 fun GW h3=>?_);have hv:VF ts (ap ts 0).fr 2 ([_],(ap ts 1).to):=⟨by decide,((VI.nil h hi (one_nm hq)).snoc h h1 (vn_name h h1 AE).o).2.1,Int.le_refl _,((VI.nil h hi (one_nm hq)).snoc h h1 (vn_name h h1 AE).o).2.2.1,(vn_name h h1 AE).o.2.2.2.bl.wide (Nat.le_refl _) (by omega)⟩;refine fv_bind (imports_v hw h _ _ _ _ (hv.step h h3 (nm_of GW (by decide))) h3) fun y j h4 h5=>?_;refine fv_bind (decls_v hw h hG _ _ _ j h5 h4) fun c k h6 h7=>fv_pure h6 ⟨rfl,nest_mk h7.1.2.1 (Int.le_refl _),(nmN_mk (by decide) (by decide)).trans h7.1.2.2.2.1,h7.2,h7.1.2.2.2.2.mk (by omega) h7.1.1⟩
end
end Go.Proofs.YtfmgdmeopakdaaaGreatDoor
