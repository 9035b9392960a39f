/- Parts of one proof. -/
import Derived.Test.YtfmgdmeopakdaaaGreatDoorMP1
set_option linter.unusedVariables false
set_option linter.unusedSimpArgs false
namespace Go.Proofs.YtfmgdmeopakdaaaGreatDoor
open Go Go.RowKit
class Mo {α:Type} (x:PM α):Prop where
  mo:∀ s a s',x s=some (.ok (a,s'))→s.1≤s'.1
section
variable {ts:List Tk} {α β:Type} {l:List ByteArray}
theorem kL {x:PM α} (h:∀ s,∃ a,x s=some (.ok (a,s))):Mo x:=⟨fun s a s' e=>by
  obtain ⟨a1,h1⟩:=h s;rw [h1] at e;cases Option.some.inj e
  exact Nat.le_refl _⟩
theorem Na {x:PM α} (h:∀ s,∃ a,x s=some (.ok (a,(s.1+1,s.2)))):Mo x:=⟨fun s a s' e=>by
  obtain ⟨a1,h1⟩:=h s;rw [h1] at e;cases Option.some.inj e
  exact Nat.le_succ _⟩
instance mo_pure {a:α}:Mo (pure a:PM α):=kL fun s=>⟨a,rfl⟩
instance mo_now:Mo (fo ts):=kL fun s=>⟨_,rfl⟩
instance mo_ahead {n:Nat}:Mo (me ts n):=kL fun s=>⟨_,rfl⟩
instance mo_is:Mo (rp ts l):=kL fun s=>⟨_,rfl⟩
instance mo_bare:Mo wj:=kL fun s=>⟨_,rfl⟩
instance mo_from:Mo (kC ts):=kL fun s=>⟨_,rfl⟩
instance mo_to:Mo (M7 ts):=kL fun s=>⟨_,rfl⟩
instance mo_made {k fr:Int} {tx:ByteArray} {ks:List No}:Mo (bd ts k fr tx ks):=kL fun s=>⟨_,rfl⟩
instance mo_empty {k:Int}:Mo (oH ts k):=kL fun s=>⟨_,rfl⟩
instance mo_step:Mo h_:=Na fun s=>⟨_,rfl⟩
instance mo_next:Mo (lG ts):=Na fun s=>⟨_,rfl⟩
instance mo_bad:Mo (kh ts:PM α):=⟨fun s a s' e=>by cases Option.some.inj e⟩
instance mo_none:Mo (fun _=>none:PM α):=⟨fun s a s' e=>by cases e⟩
instance mo_take:Mo (bc ts l):=⟨fun s a s' e=>by
  unfold bc at e;split at e <;> cases Option.some.inj e
  · exact Nat.le_succ _
  · exact Nat.le_refl _⟩
theorem uA {x:ByteArray} {s s':Ps} {t:Tk} (e:cE ts x s=some (.ok (t,s'))):oneOf (ap ts s.1) [x]=true∧t=ap ts s.1∧s'=(s.1+1,s.2):=by
  unfold cE at e;split at e
  · rename_i h
    cases Option.some.inj e;exact ⟨h,rfl,rfl⟩
  · cases Option.some.inj e
theorem uB {s s':Ps} {n:No} (e:dp ts s=some (.ok (n,s'))):(ap ts s.1).k=1∧n = .mk 40 (ap ts s.1).fr (ap ts s.1).to (ap ts s.1).tx []∧s'=(s.1+1,s.2):=by
  unfold dp at e;split at e
  · rename_i h
    cases Option.some.inj e;exact ⟨h,rfl,rfl⟩
  · cases Option.some.inj e
theorem Fz {s s':Ps} {u:Unit} (e:iI ts s=some (.ok (u,s'))):(ap ts s.1).k=6∧s'=(s.1+1,s.2):=by
  unfold iI at e;split at e
  · rename_i h
    cases Option.some.inj e;exact ⟨h,rfl⟩
  · cases Option.some.inj e
instance mo_need {x:ByteArray}:Mo (cE ts x):=⟨fun s a s' e=>by rw [(uA e).2.2];exact Nat.le_succ _⟩
instance mo_name:Mo (dp ts):=⟨fun s a s' e=>by rw [(uB e).2.2];exact Nat.le_succ _⟩
instance mo_semi:Mo (iI ts):=⟨fun s a s' e=>by rw [(Fz e).2];exact Nat.le_succ _⟩
theorem bind_ok {x:PM α} {f:α→PM β} {s s':Ps} {c:β} (e:(x >>= f) s=some (.ok (c,s'))):∃ a s1,x s=some (.ok (a,s1))∧f a s1=some (.ok (c,s')):=by
  rw [bind_def] at e;cases hr:x s with
  | none=>rw [hr] at e;cases e
  | some r=>
    cases r with
    | error p=>rw [hr] at e;cases Option.some.inj e
    | ok az=>
      obtain ⟨a1,s1⟩:=az;rw [hr] at e;exact ⟨a1,s1,rfl,e⟩
theorem cd {x:PM α} {f:α→PM β} {s s1:Ps} {a:α} (h:x s=some (.ok (a,s1))):(x >>= f) s=f a s1:=by
  rw [bind_def,h]
theorem zN {q:Bool} {x:PM α} {s s':Ps} {a:α} (e:fP q x s=some (.ok (a,s'))):∃ s1,x (s.1,q)=some (.ok (a,s1))∧s'=(s1.1,s.2):=by
  unfold fP at e;cases hr:x (s.1,q) with
  | none=>rw [hr] at e;cases e
  | some r=>
    cases r with
    | error p=>rw [hr] at e;cases Option.some.inj e
    | ok az=>
      obtain ⟨a1,s1⟩:=az;rw [hr] at e;cases Option.some.inj e;exact ⟨s1,rfl,rfl⟩
theorem FU {q:Bool} {x:PM α} {s s1:Ps} {a:α} (h:x (s.1,q)=some (.ok (a,s1))):fP q x s=some (.ok (a,(s1.1,s.2))):=by
  unfold fP;rw [h]
instance mo_flag {q:Bool} {x:PM α} [h:Mo x]:Mo (fP q x):=⟨fun s a s' e=>by
  obtain ⟨s1,h1,rfl⟩:=zN e
  exact h.mo (s.1,q) a s1 h1⟩
theorem Mo.bind {x:PM α} {f:α→PM β} (h:Mo x) (hf:∀ a,Mo (f a)):Mo (x >>= f):=⟨fun s a s' e=>by
  obtain ⟨a1,s1,h1,h2⟩:=bind_ok e
  exact Nat.le_trans (h.mo s a1 s1 h1) ((hf a1).mo s1 a s' h2)⟩
instance mo_bind {x:PM α} {f:α→PM β} [h:Mo x] [hf:∀ a,Mo (f a)]:Mo (x >>= f):=h.bind hf
instance mo_ite {c:Prop} [Decidable c] {x y:PM α} [h:Mo x] [h':Mo y]:Mo (if c then x else y):=by
  by_cases hc:c
  · rw [if_pos hc];exact h
  · rw [if_neg hc];exact h'
theorem GC {f:No→PM β} (hf:∀ n,Mo (f n)) {s s':Ps} {a:β} (e:(dp ts >>= f) s=some (.ok (a,s'))):s.1+1≤s'.1:=by
  obtain ⟨a1,s1,h1,h2⟩:=bind_ok e;have:=(hf a1).mo s1 a s' h2;rw [(uB h1).2.2] at this;exact this
theorem pJ {s s':Ps} {a:No} (e:dk ts s=some (.ok (a,s'))):s.1+1≤s'.1:=by
  unfold dk at e;exact GC (fun n=>inferInstance) e
instance mo_typeName:Mo (dk ts):=⟨fun s a s' e=>Nat.le_of_succ_le (pJ e)⟩
instance mo_back {f:No→PM β} [hf:∀ a,Mo (f a)]:Mo (tN >>= fun _=>dk ts >>= f):=⟨fun s a s' e=>by
  have e:(dk ts >>= f) (s.1 - 1,s.2)=some (.ok (a,s')):=e;obtain ⟨a1,s1,h1,h2⟩:=bind_ok e;have h3:=pJ h1;have h4:=(hf a1).mo s1 a s' h2;simp only at h3
  omega⟩
end
mutual
def B1:No→No
  | .mk k _ _ tx ks=>.mk k 0 0 tx (ob ks)
def ob:List No→List No
  | []=>[]
  | n :: ns=>B1 n :: ob ns
end
def EN (n n':No):Prop:=B1 n=B1 n'
def EL (l l':List No):Prop:=ob l=ob l'
theorem EL.nil:EL [] []:=rfl
theorem EL.cons {n n':No} {l l':List No} (h:EN n n') (h':EL l l'):EL (n :: l) (n' :: l'):=by
  have h:B1 n=B1 n':=h;have h':ob l=ob l':=h'
  show ob _=ob _
  rw [ob,ob,h,h']
theorem EL.inv {n n':No} {l l':List No} (h:EL (n :: l) (n' :: l')):EN n n'∧EL l l':=by
  have h:ob _=ob _:=h;rw [ob,ob] at h
  injection h with h1 h2
  exact ⟨h1,h2⟩
theorem zO:∀ l:List No,(ob l).length=l.length
  | []=>by rw [ob]
  | n :: ns=>by rw [ob,List.length_cons,List.length_cons,zO ns]
theorem EL.len {l l':List No} (h:EL l l'):l.length=l'.length:=by
  have h:ob _=ob _:=h;rw [← zO l,h,zO]
theorem zP:∀ l l2:List No,ob (l ++ l2)=ob l ++ ob l2
  | [],l2=>by rw [ob];rfl
  | n :: ns,l2=>by rw [List.cons_append,ob,ob,zP ns l2,List.cons_append]
theorem EL.app {l l' m m':List No} (h:EL l l') (h':EL m m'):EL (l ++ m) (l' ++ m'):=by
  have h:ob l=ob l':=h;have h':ob m=ob m':=h'
  show ob _=ob _
  rw [zP,zP,h,h']
theorem xq {n n':No} (h:EN n n'):EL [n] [n']:=EL.cons h EL.nil
theorem B9 {n n' m m':No} (h:EN n n') (h2:EN m m'):EL [n,m] [n',m']:=EL.cons h (xq h2)
theorem Ny {n n' m m' k k':No} (h:EN n n') (h2:EN m m') (h3:EN k k'):EL [n,m,k] [n',m',k']:=EL.cons h (B9 h2 h3)
theorem Sn {n n' m m' k k' o o':No} (h:EN n n') (h2:EN m m') (h3:EN k k') (h4:EN o o'):EL [n,m,k,o] [n',m',k',o']:=EL.cons h (Ny h2 h3 h4)
theorem EL.snoc {l l':List No} {n n':No} (h:EL l l') (h':EN n n'):EL (l ++ [n]) (l' ++ [n']):=h.app (xq h')
theorem EN.refl (n:No):EN n n:=rfl
theorem EL.head:∀ {l l':List No} (_:EL l l'),EN (l.headD bo) (l'.headD bo)
  | [],[],_=>rfl
  | _ :: _,_ :: _,h=>h.inv.1
  | [],_ :: _,h=>by have:=h.len;simp at this
  | _ :: _,[],h=>by have:=h.len;simp at this
theorem EL.get:∀ {l l':List No} (i:Nat) (_:EL l l'),EN (l.getD i bo) (l'.getD i bo)
  | [],[],_,_=>rfl
  | _ :: _,_ :: _,0,h=>h.inv.1
  | _ :: l,_ :: l',i+1,h=>EL.get (l:=l) (l':=l') i h.inv.2
  | [],_ :: _,_,h=>by have:=h.len;simp at this
  | _ :: _,[],_,h=>by have:=h.len;simp at this
theorem EN.mk {k f t f' t':Int} {x x':ByteArray} {ks FK:List No} (h:EL ks FK) (hx:x=x'):EN (.mk k f t x ks) (.mk k f' t' x' FK):=by
  have h:ob ks=ob FK:=h
  show B1 _=B1 _
  rw [B1,B1,h,hx]
theorem EN.inv:∀ {n n':No} (_:EN n n'),n.k=n'.k∧n.tx=n'.tx∧EL n.ks n'.ks
  | .mk k f t x ks,.mk k' f' t' x' FK,h=>by
    have h:B1 _=B1 _:=h;rw [B1,B1] at h
    injection h with h1 h2 h3 h4 h5
    exact ⟨h1,h4,h5⟩
theorem EN.of {n n':No} (h1:n.k=n'.k) (h2:n.tx=n'.tx) (h3:EL n.ks n'.ks):EN n n':=by
  obtain ⟨k,f,t,x,ks⟩:=n;obtain ⟨k',f',t',x',FK⟩:=n';have h1:k=k':=h1;subst h1;exact EN.mk h3 h2
theorem EL.names:∀ {l l':List No} (_:EL l l'),iB l=iB l'
  | [],[],_=>rfl
  | _ :: l,_ :: l',h=>by
    have h2:=EL.names (l:=l) (l':=l') h.inv.2;unfold iB at h2 ⊢;rw [List.all_cons,List.all_cons,h2,h.inv.1.inv.1]
  | [],_ :: _,h=>by have:=h.len;simp at this
  | _ :: _,[],h=>by have:=h.len;simp at this
def TS (t t':Tk):Prop:=t.k=t'.k∧t.tx=t'.tx
def Dl (t:Tk):Prop:=t.k=6∨t.k=7
def M0 (t:Tk):Prop:=t.k=6∨t.k=7∨(t.k=5∧t.tx=⟨#[41]⟩)
def TR (t t':Tk):Prop:=TS t t'∨(Dl t∧M0 t')
def OA (l:List ByteArray):Bool:=l.all fun x=>decide (x≠⟨#[41]⟩)
section
variable {t t':Tk} {l:List ByteArray}
theorem TS.one (h:TS t t'):oneOf t l=oneOf t' l:=by
  unfold oneOf iJ;rw [h.1,h.2]
theorem TS.begins (h:TS t t'):j1 t=j1 t':=by
  unfold j1;rw [h.1,h.one]
theorem Dl.one (h:Dl t):oneOf t l=false:=by
  unfold oneOf;rcases h with h | h <;> rw [h] <;> rfl
theorem M0.one (h:M0 t) (hl:OA l=true):oneOf t l=false:=by
  rcases h with h | h | ⟨h,h2⟩
  · exact Dl.one (.inl h)
  · exact Dl.one (.inr h)
  · have e:iJ t l=false:=by
      unfold iJ;rw [List.any_eq_false];intro x hx;have:=List.all_eq_true.1 hl x hx;rw [h2];simp only [decide_eq_true_eq] at this ⊢;exact fun e=>this e.symm
    unfold oneOf;rw [e,Bool.and_false]
theorem TR.one (h:TR t t') (hl:OA l=true:=by decide):oneOf t l=oneOf t' l:=by
  rcases h with h | ⟨h,h'⟩
  · exact h.one
  · rw [h.one,h'.one hl]
theorem Dl.k (h:Dl t) {c:Int} (hc:c≠6∧c≠7):t.k≠c:=by
  rcases h with h | h <;> rw [h] <;> intro e <;> subst e <;> simp at hc
theorem M0.k (h:M0 t) {c:Int} (hc:c≠5∧c≠6∧c≠7):t.k≠c:=by
  rcases h with h | h | ⟨h,-⟩ <;> rw [h] <;> intro e <;> subst e <;> simp at hc
theorem TR.k (h:TR t t') {c:Int} (hc:c≠5∧c≠6∧c≠7:=by decide):t.k=c↔t'.k=c:=by
  rcases h with h | ⟨h,h'⟩
  · rw [h.1]
  · exact iff_of_false (h.k hc.2) (h'.k hc)
theorem TR.same (h:TR t t') {c:Int} (hk:t.k=c) (hc:c≠6∧c≠7:=by decide):TS t t':=by
  rcases h with h | ⟨h,h'⟩
  · exact h
  · exact absurd hk (h.k hc)
theorem TS.rank (h:TS t t'):dm t=dm t':=by
  unfold dm iJ;rw [h.1,h.2]
theorem Dl.rank (h:Dl t):dm t=0:=by
  unfold dm;rw [if_pos (h.k (by decide))]
theorem M0.rank (h:M0 t):dm t=0:=by
  rcases h with h | h | ⟨h,h2⟩
  · exact Dl.rank (.inl h)
  · exact Dl.rank (.inr h)
  · unfold dm iJ
    rw [h2];simp
theorem TR.rank (h:TR t t'):dm t=dm t':=by
  rcases h with h | ⟨h,h'⟩
  · exact h.rank
  · rw [h.rank,h'.rank]
theorem TR.typed (h:TR t t'):lU t=lU t':=by
  unfold lU;rw [h.one,decide_eq_decide.2 (h.k (c:=1))]
end
structure SK (ts aP:List Tk) (d j:Nat):Prop where
  le:ts.length≤aP.length
  same:∀ i,i<j→TS (ap ts i) (ap aP (i+d))
  far:Dl (ap ts j)∧M0 (ap aP (j+d))
  ahead:∀ i n,i≤j→TR (ap ts (min (i+n) (ts.length - 1))) (ap aP (min (i+d+n) (aP.length - 1)))
def SR (d m lo:Nat) {α β:Type} (V:α→β→Prop) (x:PM α) (x':PM β):Prop:=
  ∀ i b a s',lo≤i→i≤m→x (i,b)=some (.ok (a,s'))→m<s'.1∨∃ a',x' (i+d,b)=some (.ok (a',(s'.1+d,s'.2)))∧V a a'
section
variable {ts aP:List Tk} {d j m lo:Nat} {α β γ δ:Type} {V:α→γ→Prop} {U:β→δ→Prop} {l:List ByteArray}
theorem SK.tr (K:SK ts aP d j) {i:Nat} (h:i≤j):TR (ap ts i) (ap aP (i+d)):=by
  rcases Nat.lt_or_ge i j with h1 | h1
  · exact .inl (K.same i h1)
  · obtain rfl:i=j:=by omega
    exact .inr K.far
theorem SR.up {V':α→γ→Prop} {x:PM α} {x':PM γ} (h:SR d m lo V x x') (hv:∀ a c,V a c→V' a c):SR d m lo V' x x':=fun i b a s' h0 h1 e=>
  (h i b a s' h0 h1 e).imp_right fun ⟨a',h2,h3⟩=>⟨a',h2,hv _ _ h3⟩
theorem SR.up0 {x:PM α} {x':PM γ} (h:SR d m 0 V x x'):SR d m lo V x x':=fun i b a s' _ h1 e=>h i b a s' (Nat.zero_le _) h1 e
theorem eV {x':PM γ}:SR d m lo V (fun _=>none:PM α) x':=fun i b a s' _ _ e=>by cases e
theorem jJ:SR d m lo V (kh ts:PM α) (kh aP:PM γ):=fun i b a s' _ _ e=>by cases Option.some.inj e
theorem aL {a:α} {c:γ} (h:V a c):SR d m lo V (pure a) (pure c):=fun i b a' s' _ _ e=>by
  have e:(.ok (a,(i,b)):Except Int (α×Ps)) = .ok (a',s'):=Option.some.inj e;cases e;exact .inr ⟨c,rfl,h⟩
theorem ax {x:PM α} {x':PM γ} {f:α→PM β} {f':γ→PM δ} (h:SR d m lo V x x') [hm:∀ a,Mo (f a)] (hf:∀ a a',V a a'→SR d m 0 U (f a) (f' a')):SR d m lo U (x >>= f) (x' >>= f'):=fun i b c s' h0 h1 e=>by
  obtain ⟨a,s1,h2,h3⟩:=bind_ok e;rcases h i b a s1 h0 h1 h2 with h4 | ⟨a',h4,h5⟩
  · exact .inl (Nat.lt_of_lt_of_le h4 ((hm a).mo s1 c s' h3))
  · rcases Nat.lt_or_ge m s1.1 with h6 | h6
    · exact .inl (Nat.lt_of_lt_of_le h6 ((hm a).mo s1 c s' h3))
    · rw [cd h4]
      exact hf a a' h5 s1.1 s1.2 c s' (Nat.zero_le _) h6 h3
theorem dw {c c':Prop} [Decidable c] [Decidable c'] {x y:PM α} {x' y':PM γ} (hc:c↔c') (h1:c→c'→SR d m lo V x x') (h2:¬c→¬c'→SR d m lo V y y'):SR d m lo V (if c then x else y) (if c' then x' else y'):=by
  by_cases h:c
  · rw [if_pos h,if_pos (hc.1 h)];exact h1 h (hc.1 h)
  · rw [if_neg h,if_neg (fun e=>h (hc.2 e))];exact h2 h fun e=>h (hc.2 e)
theorem qj {q:Bool} {x y:PM α} {x' y':PM γ} (h1:SR d m lo V x x') (h2:SR d m lo V y y'):SR d m lo V (if q=true then x else y) (if q=true then x' else y'):=dw Iff.rfl (fun _ _=>h1) fun _ _=>h2
theorem kW {t t':Tk} (e:oneOf t l=oneOf t' l) {x y:PM α} {x' y':PM γ} (h1:SR d m lo V x x') (h2:SR d m lo V y y'):SR d m lo V (if oneOf t l=true then x else y) (if oneOf t' l=true then x' else y'):=dw (by rw [e]) (fun _ _=>h1) fun _ _=>h2
section
variable {f:Tk→PM β} {f':Tk→PM δ}
theorem uZ (K:SK ts aP d j) (hm:m≤j) (hf:∀ t t',TR t t'→SR d m lo U (f t) (f' t')):SR d m lo U (fo ts >>= f) (fo aP >>= f'):=fun i b c s' h0 h1 e=>
  hf _ _ (K.tr (Nat.le_trans h1 hm)) i b c s' h0 h1 e
theorem fi (K:SK ts aP d j) (hm:m<j) (hf:∀ t t',TS t t'→SR d m lo U (f t) (f' t')):SR d m lo U (fo ts >>= f) (fo aP >>= f'):=fun i b c s' h0 h1 e=>
  hf _ _ (K.same i (Nat.lt_of_le_of_lt h1 hm)) i b c s' h0 h1 e
theorem qW (K:SK ts aP d j) (hm:m≤j) {n:Nat} (hf:∀ t t',TR t t'→SR d m lo U (f t) (f' t')):SR d m lo U (me ts n >>= f) (me aP n >>= f'):=fun i b c s' h0 h1 e=>
  hf _ _ (K.ahead i n (Nat.le_trans h1 hm)) i b c s' h0 h1 e
theorem kI (K:SK ts aP d j) (hm:m≤j) [hmo:∀ a,Mo (f a)] (hf:∀ t t',TR t t'→SR d m 0 U (f t) (f' t')):SR d m lo U (lG ts >>= f) (lG aP >>= f'):=fun i b c s' h0 h1 e=>by
  rcases Nat.lt_or_ge i m with h2 | h2
  · have e2:(i+1+d,b)=(i+d+1,b):=by rw [Nat.add_right_comm]
    have:=hf _ _ (K.tr (Nat.le_trans h1 hm)) (i+1) b c s' (Nat.zero_le _) h2 e;rw [e2] at this;exact this
  · have:=(hmo _).mo (i+1,b) c s' e
    simp only at this;exact .inl (by omega)
theorem eJ (K:SK ts aP d j) (hm:m≤j) {y:ByteArray} [hmo:∀ a,Mo (f a)] (hf:∀ t t',TS t t'→SR d m 0 U (f t) (f' t')):SR d m lo U (cE ts y >>= f) (cE aP y >>= f'):=fun i b c s' h0 h1 e=>by
  obtain ⟨t,s1,h2,h3⟩:=bind_ok e;obtain ⟨h4,rfl,rfl⟩:=uA h2;simp only at h4 h3;rcases Nat.lt_or_ge i m with h5 | h5
  · have hs:=K.same i (by omega)
    have e2:cE aP y (i+d,b)=some (.ok (ap aP (i+d),(i+1+d,b))):=by
      unfold cE;rw [if_pos (by rw [← hs.one];exact h4),Nat.add_right_comm]
    rw [cd e2];exact hf _ _ hs (i+1) b c s' (Nat.zero_le _) h5 h3
  · have:=(hmo _).mo (i+1,b) c s' h3
    simp only at this;exact .inl (by omega)
end
theorem pM (K:SK ts aP d j) (hm:m≤j) {f:Bool→PM β} {f':Bool→PM δ} (hf:∀ q,SR d m lo U (f q) (f' q)) (hl:OA l=true:=by decide):SR d m lo U (rp ts l >>= f) (rp aP l >>= f'):=fun i b c s' h0 h1 e=>by
  have h:=hf (oneOf (ap ts i) l) i b c s' h0 h1 e;rw [(K.tr (Nat.le_trans h1 hm)).one hl] at h;exact h
theorem Ov (K:SK ts aP d j) (hm:m<j) {f:Bool→PM β} {f':Bool→PM δ} (hf:∀ q,SR d m lo U (f q) (f' q)):SR d m lo U (rp ts l >>= f) (rp aP l >>= f'):=fun i b c s' h0 h1 e=>by
  have h:=hf (oneOf (ap ts i) l) i b c s' h0 h1 e;rw [(K.same i (Nat.lt_of_le_of_lt h1 hm)).one] at h;exact h
theorem Lw {f:Bool→PM β} {f':Bool→PM δ} (hf:∀ q,SR d m lo U (f q) (f' q)):SR d m lo U (wj >>= f) (wj >>= f'):=fun i b c s' h0 h1 e=>hf b i b c s' h0 h1 e
theorem i_ {f:Int→PM β} {f':Int→PM δ} (hf:∀ p p',SR d m lo U (f p) (f' p')):SR d m lo U (kC ts >>= f) (kC aP >>= f'):=fun i b c s' h0 h1 e=>hf _ _ i b c s' h0 h1 e
theorem ID {f:Int→PM β} {f':Int→PM δ} (hf:∀ p p',SR d m lo U (f p) (f' p')):SR d m lo U (M7 ts >>= f) (M7 aP >>= f'):=fun i b c s' h0 h1 e=>hf _ _ i b c s' h0 h1 e
theorem eL {k fr fr':Int} {tx Ql:ByteArray} {ks FK:List No} {f:No→PM β} {f':No→PM δ} (hk:EL ks FK) (hf:∀ n n',EN n n'→SR d m lo U (f n) (f' n')) (hx:tx=Ql:=by rfl):SR d m lo U (bd ts k fr tx ks >>= f) (bd aP k fr' Ql FK >>= f'):=fun i b c s' h0 h1 e=>
  hf _ _ (EN.mk hk hx) i b c s' h0 h1 e
theorem dv {k fr fr':Int} {tx Ql:ByteArray} {ks FK:List No} (hk:EL ks FK) (hx:tx=Ql:=by rfl):SR d m lo EN (bd ts k fr tx ks) (bd aP k fr' Ql FK):=fun i b c s' h0 h1 e=>by
  have e:(.ok (No.mk k fr (ap ts (i - 1)).to tx ks,(i,b)):Except Int (No×Ps)) = .ok (c,s'):=Option.some.inj e;cases e;exact .inr ⟨_,rfl,EN.mk hk hx⟩
theorem Ba {k:Int}:SR d m lo EN (oH ts k) (oH aP k):=fun i b c s' h0 h1 e=>by
  have e:(.ok (No.mk k (ap ts i).fr (ap ts i).fr ⟨#[]⟩ [],(i,b)):Except Int (No×Ps)) = .ok (c,s'):=Option.some.inj e;cases e;exact .inr ⟨_,rfl,EN.mk EL.nil rfl⟩
theorem iZ {f:Unit→PM β} {f':Unit→PM δ} [hmo:∀ a,Mo (f a)] (hf:SR d m 0 U (f ()) (f' ())):SR d m lo U (h_ >>= f) (h_ >>= f'):=fun i b c s' h0 h1 e=>by
  rcases Nat.lt_or_ge i m with h2 | h2
  · have e2:(i+1+d,b)=(i+d+1,b):=by rw [Nat.add_right_comm]
    have:=hf (i+1) b c s' (Nat.zero_le _) h2 e;rw [e2] at this;exact this
  · have:=(hmo ()).mo (i+1,b) c s' e
    simp only at this;exact .inl (by omega)
theorem yV {f:Unit→PM β} {f':Unit→PM δ} (hf:SR d m 0 U (f ()) (f' ())):SR d m 1 U (tN >>= f) (tN >>= f'):=fun i b c s' h0 h1 e=>by
  (have e2:(i - 1+d,b)=(i+d - 1,b):=by rw [Nat.sub_add_comm h0]);have:=hf (i - 1) b c s' (Nat.zero_le _) (by omega) e;rw [e2] at this;exact this
theorem o4 (K:SK ts aP d j) (hm:m≤j) {f:Unit→PM β} {f':Unit→PM δ} [hmo:∀ a,Mo (f a)] (hf:SR d m 0 U (f ()) (f' ())):SR d m lo U (iI ts >>= f) (iI aP >>= f'):=fun i b c s' h0 h1 e=>by
  obtain ⟨t,s1,h2,h3⟩:=bind_ok e;obtain ⟨h4,rfl⟩:=Fz h2;simp only at h4 h3;rcases Nat.lt_or_ge i m with h5 | h5
  · have hs:=K.same i (by omega)
    have e2:iI aP (i+d,b)=some (.ok ((),(i+1+d,b))):=by
      unfold iI;rw [if_pos (by rw [← hs.1];exact h4),Nat.add_right_comm]
    rw [cd e2];exact hf (i+1) b c s' (Nat.zero_le _) h5 h3
  · have:=(hmo t).mo (i+1,b) c s' h3
    simp only at this;exact .inl (by omega)
theorem lE (K:SK ts aP d j) (hm:m≤j) {f:Bool→PM β} {f':Bool→PM δ} [hmo:∀ a,Mo (f a)] (hf:∀ q,SR d m 0 U (f q) (f' q)) (hl:OA l=true:=by decide):SR d m lo U (bc ts l >>= f) (bc aP l >>= f'):=fun i b c s' h0 h1 e=>by
  have hr:=K.tr (Nat.le_trans h1 hm);by_cases hq:oneOf (ap ts i) l=true
  · have e1:bc ts l (i,b)=some (.ok (true,(i+1,b))):=by
      unfold bc;rw [if_pos hq]
    rw [cd e1] at e;rcases Nat.lt_or_ge i m with h5 | h5
    · have e2:bc aP l (i+d,b)=some (.ok (true,(i+1+d,b))):=by
        unfold bc;rw [if_pos (by rw [← hr.one hl];exact hq),Nat.add_right_comm]
      rw [cd e2];exact hf true (i+1) b c s' (Nat.zero_le _) h5 e
    · have:=(hmo true).mo (i+1,b) c s' e
      simp only at this;exact .inl (by omega)
  · have e1:bc ts l (i,b)=some (.ok (false,(i,b))):=by
      unfold bc;rw [if_neg hq]
    have e2:bc aP l (i+d,b)=some (.ok (false,(i+d,b))):=by
      unfold bc;rw [if_neg (by rw [← hr.one hl];exact hq)]
    rw [cd e1] at e;rw [cd e2];exact hf false i b c s' (Nat.zero_le _) h1 e
theorem cz (K:SK ts aP d j) (hm:m≤j) {x y:PM β} {x' y':PM δ} [hx:Mo x] [hy:Mo y] (h1:SR d m 0 U x x') (h2:SR d m 0 U y y') (hl:OA l=true:=by decide):SR d m lo U (bc ts l >>= fun q=>if q=true then x else y) (bc aP l >>= fun q=>if q=true then x' else y'):=lE K hm (fun q=>qj h1 h2) hl
theorem ot (K:SK ts aP d j) (hm:m≤j) {x y:PM β} {x' y':PM δ} (h1:SR d m lo U x x') (h2:SR d m lo U y y') (hl:OA l=true:=by decide):SR d m lo U (rp ts l >>= fun q=>if q=true then x else y) (rp aP l >>= fun q=>if q=true then x' else y'):=pM K hm (fun q=>qj h1 h2) hl
theorem Dj (K:SK ts aP d j) (hm:m≤j) {x y:Tk→PM β} {x' y':Tk→PM δ} [hx:∀ t,Mo (x t)] (h1:∀ t t',TS t t'→SR d m 0 U (x t) (x' t')) (h2:∀ t t',TR t t'→SR d m 0 U (y t) (y' t')) (hl:OA l=true:=by decide):SR d m lo U (fo ts >>= fun t=>bc ts l >>= fun q=>if q=true then x t else y t) (fo aP >>= fun t=>bc aP l >>= fun q=>if q=true then x' t else y' t):=fun i b c s' h0 Zk e=>by
  have hr:=K.tr (Nat.le_trans Zk hm);have e:(bc ts l >>= fun q=>if q=true then x (ap ts i) else y (ap ts i)) (i,b)=some (.ok (c,s')):=e
  show _∨∃ a',(bc aP l >>= fun q=>if q=true then x' (ap aP (i+d)) else y' (ap aP (i+d))) (i+d,b)=_∧_
  by_cases hq:oneOf (ap ts i) l=true
  · have e1:bc ts l (i,b)=some (.ok (true,(i+1,b))):=by
      unfold bc;rw [if_pos hq]
    rw [cd e1,if_pos rfl] at e;rcases Nat.lt_or_ge i m with h5 | h5
    · have hs:=K.same i (by omega)
      have e2:bc aP l (i+d,b)=some (.ok (true,(i+1+d,b))):=by
        unfold bc;rw [if_pos (by rw [← hs.one];exact hq),Nat.add_right_comm]
      rw [cd e2,if_pos rfl];exact h1 _ _ hs (i+1) b c s' (Nat.zero_le _) h5 e
    · have:=(hx _).mo (i+1,b) c s' e
      simp only at this;exact .inl (by omega)
  · have e1:bc ts l (i,b)=some (.ok (false,(i,b))):=by
      unfold bc;rw [if_neg hq]
    have e2:bc aP l (i+d,b)=some (.ok (false,(i+d,b))):=by
      unfold bc;rw [if_neg (by rw [← hr.one hl];exact hq)]
    rw [cd e1,if_neg (by decide)] at e;rw [cd e2,if_neg (by decide)];exact h2 _ _ hr i b c s' (Nat.zero_le _) Zk e
theorem eK (K:SK ts aP d j) (hm:m≤j) {f:No→PM β} {f':No→PM δ} [hmo:∀ a,Mo (f a)] (hf:∀ n n',EN n n'→SR d m 1 U (f n) (f' n')):SR d m lo U (dp ts >>= f) (dp aP >>= f'):=fun i b c s' h0 h1 e=>by
  obtain ⟨t,s1,h2,h3⟩:=bind_ok e;obtain ⟨h4,rfl,rfl⟩:=uB h2;simp only at h4 h3;rcases Nat.lt_or_ge i m with h5 | h5
  · have hs:=K.same i (by omega)
    have e2:dp aP (i+d,b)=some (.ok (.mk 40 (ap aP (i+d)).fr (ap aP (i+d)).to (ap aP (i+d)).tx [],(i+1+d,b))):=by
      unfold dp;rw [if_pos (by rw [← hs.1];exact h4),Nat.add_right_comm]
    rw [cd e2];exact hf _ _ (EN.mk EL.nil hs.2) (i+1) b c s' (by omega) h5 h3
  · have:=(hmo _).mo (i+1,b) c s' h3
    simp only at this;exact .inl (by omega)
theorem IF (K:SK ts aP d j) (hm:m≤j):SR d m lo EN (dp ts) (dp aP):=by
  have h:SR d m lo EN (dp ts >>= pure) (dp aP >>= pure):=eK K hm fun n n' h=>aL h;intro i b a s' h0 h1 e;refine (h i b a s' h0 h1 (by rw [cd e];rfl)).imp_right fun ⟨a',h2,h3⟩=>?_;obtain ⟨a1,s1,h4,h5⟩:=bind_ok h2;have h5:(.ok (a1,s1):Except Int (No×Ps)) = .ok (a',(s'.1+d,s'.2)):=Option.some.inj h5;cases h5;exact ⟨_,h4,h3⟩
theorem kJ {q:Bool} {x:PM α} {x':PM γ} (h:SR d m 0 V x x'):SR d m lo V (fP q x) (fP q x'):=fun i b a s' h0 h1 e=>by
  obtain ⟨s1,h2,rfl⟩:=zN e;exact (h i q a s1 (Nat.zero_le _) h1 h2).imp_right fun ⟨a',h3,h4⟩=>⟨a',FU (s:=(i+d,b)) h3,h4⟩
theorem ii (K:SK ts aP d j) (hm:m≤j) {x:PM α} {x':PM γ} [hx:Mo x] (h:∀ m',m'<m→SR d m' 0 V x x') {y:ByteArray} {f:α→Tk→PM β} {f':γ→Tk→PM δ} [hmo:∀ a t,Mo (f a t)] (hf:∀ a a' t t',V a a'→SR d m 0 U (f a t) (f' a' t')):SR d m lo U (x >>= fun a=>cE ts y >>= f a) (x' >>= fun a=>cE aP y >>= f' a):=fun i b c s' h0 h1 e=>by
  obtain ⟨a,s1,h2,h3⟩:=bind_ok e;obtain ⟨t,s2,h4,h5⟩:=bind_ok h3;obtain ⟨h6,rfl,rfl⟩:=uA h4;have h7:=(hmo a (ap ts s1.1)).mo _ _ _ h5;have h8:=hx.mo _ _ _ h2;simp only at h7 h8;rcases Nat.lt_or_ge s1.1 m with h9 | h9
  · rcases h (m - 1) (by omega) i b a s1 (Nat.zero_le _) (by omega) h2 with oa | ⟨a',oa,U_⟩
    · omega
    · have hs:=K.same s1.1 (by omega)
      have e2:cE aP y (s1.1+d,s1.2)=some (.ok (ap aP (s1.1+d),(s1.1+1+d,s1.2))):=by
        unfold cE;rw [if_pos (by rw [← hs.one];exact h6),Nat.add_right_comm]
      rw [cd oa,cd e2];exact hf a a' _ _ U_ (s1.1+1) s1.2 c s' (Nat.zero_le _) h9 h5
  · exact .inl (by omega)
end
def Real (t:Tk):Prop:=t.k≠6∧t.k≠7
def xN (ts:List Tk) (j:Nat) (n:No):Prop:=n.to=(ap ts (j - 1)).to∧Real (ap ts (j - 1))
def EA (ts:List Tk) {α:Type} (V:Nat→α→Prop) (x:PM α) (i:Nat):Prop:=∀ b a s',x (i,b)=some (.ok (a,s'))→V s'.1 a
theorem Bp {t:Tk} {l:List ByteArray} (h:oneOf t l=true):Real t:=by
  rcases M9 h with h | h <;> (unfold Real;rw [h];decide)
theorem Dz {t:Tk} {c:Int} (h:t.k=c) (hc:c≠6∧c≠7):Real t:=by
  unfold Real;rw [h];exact hc
section
variable {ts:List Tk} {α β:Type} {i:Nat} {l:List ByteArray} {V:Nat→α→Prop} {U:Nat→β→Prop}
theorem Pk {x:PM α}:EA ts (fun _ _=>True) x i:=fun _ _ _ _=>trivial
theorem rK:EA ts V (fun _=>none:PM α) i:=fun b a s' e=>by cases e
theorem Pj:EA ts V (kh ts:PM α) i:=fun b a s' e=>by cases Option.some.inj e
theorem jj {a:α} (h:V i a):EA ts V (pure a) i:=fun b a' s' e=>by
  have e:(.ok (a,(i,b)):Except Int (α×Ps)) = .ok (a',s'):=Option.some.inj e;cases e;exact h
theorem jk {x:PM α} {f:α→PM β} (h:EA ts V x i) (hf:∀ a j,V j a→EA ts U (f a) j):EA ts U (x >>= f) i:=fun b c s' e=>by
  obtain ⟨a,s1,h1,h2⟩:=bind_ok e;exact hf a s1.1 (h b a s1 h1) s1.2 c s' h2
theorem e_ {x:PM α} {f:α→PM β} (hf:∀ a j,EA ts U (f a) j):EA ts U (x >>= f) i:=jk Pk fun a j _=>hf a j
theorem zV {f:Tk→PM β} (h:EA ts U (f (ap ts i)) i):EA ts U (fo ts >>= f) i:=h
theorem B_ {n:Nat} {f:Tk→PM β} (h:∀ t,EA ts U (f t) i):EA ts U (me ts n >>= f) i:=h (ap ts (min (i+n) (ts.length - 1)))
theorem JX {f:Bool→PM β} (h:∀ q,EA ts U (f q) i):EA ts U (rp ts l >>= f) i:=h (oneOf (ap ts i) l)
theorem Ml {f:Bool→PM β} (h:∀ q,EA ts U (f q) i):EA ts U (wj >>= f) i:=fun b=>h b b
theorem zU {f:Unit→PM β} (h:EA ts U (f ()) (i+1)):EA ts U (h_ >>= f) i:=h
theorem pV {c:Prop} [Decidable c] {x y:PM α} (h1:c→EA ts V x i) (h2:¬c→EA ts V y i):EA ts V (if c then x else y) i:=by
  by_cases h:c
  · rw [if_pos h];exact h1 h
  · rw [if_neg h];exact h2 h
theorem pk {y:ByteArray} {f:Tk→PM β} (h:∀ t,Real (ap ts i)→EA ts U (f t) (i+1)):EA ts U (cE ts y >>= f) i:=fun b c s' e=>by
  obtain ⟨t,s1,h2,h3⟩:=bind_ok e;obtain ⟨h4,rfl,rfl⟩:=uA h2;exact h _ (Bp h4) b c s' h3
theorem FZ {f:No→PM β} (h:∀ n,xN ts (i+1) n→EA ts U (f n) (i+1)):EA ts U (dp ts >>= f) i:=fun b c s' e=>by
  obtain ⟨t,s1,h2,h3⟩:=bind_ok e;obtain ⟨h4,rfl,rfl⟩:=uB h2;exact h _ ⟨rfl,Dz h4 (by decide)⟩ b c s' h3
theorem Mj {f:Bool→PM β} (h1:Real (ap ts i)→EA ts U (f true) (i+1)) (h0:EA ts U (f false) i):EA ts U (bc ts l >>= f) i:=fun b c s' e=>by
  by_cases hq:oneOf (ap ts i) l=true
  · have e1:bc ts l (i,b)=some (.ok (true,(i+1,b))):=by unfold bc;rw [if_pos hq]
    rw [cd e1] at e;exact h1 (Bp hq) b c s' e
  · have e1:bc ts l (i,b)=some (.ok (false,(i,b))):=by unfold bc;rw [if_neg hq]
    rw [cd e1] at e;exact h0 b c s' e
theorem lf {x y:PM β} (h1:Real (ap ts i)→EA ts U x (i+1)) (h0:EA ts U y i):EA ts U (bc ts l >>= fun q=>if q=true then x else y) i:=
  Mj (fun h=>by rw [if_pos rfl];exact h1 h) (by rw [if_neg (by decide)];exact h0)
theorem tI {k fr:Int} {tx:ByteArray} {ks:List No} (h:Real (ap ts (i - 1))):EA ts (xN ts) (bd ts k fr tx ks) i:=fun b a s' e=>by
  have e:(.ok (No.mk k fr (ap ts (i - 1)).to tx ks,(i,b)):Except Int (No×Ps)) = .ok (a,s'):=Option.some.inj e;cases e;exact ⟨rfl,h⟩
theorem uI {k fr:Int} {tx:ByteArray} {ks:List No} {f:No→PM β} (hr:Real (ap ts (i - 1))) (h:∀ n,xN ts i n→EA ts U (f n) i):EA ts U (bd ts k fr tx ks >>= f) i:=fun b c s' e=>h _ ⟨rfl,hr⟩ b c s' e
theorem Mk {q:Bool} {x:PM α} (h:EA ts V x i):EA ts V (fP q x) i:=fun b a s' e=>by
  obtain ⟨s1,h1,rfl⟩:=zN e;exact h q a s1 h1
end
structure GE (ts:List Tk) (G:Gr):Prop where
  unary:∀ i,EA ts (xN ts) G.unary i
  binary:∀ x r i,xN ts i x→EA ts (xN ts) (G.binary x r) i
section
variable {ts:List Tk} {G:Gr} {i:Nat} {x:No}
theorem oJ {fr:Int} {t:No}:EA ts (xN ts) (cU ts G fr t) i:=by
  unfold cU;exact e_ fun a j=>e_ fun b k=>pk fun t h=>tI h
theorem I5:EA ts (xN ts) (gh ts G) i:=by
  unfold gh;refine FZ fun n hn=>Ml fun b=>pV (fun _=>jj hn) fun _=>JX fun q=>pV (fun _=>oJ) fun _=>?_;exact JX fun q=>B_ fun t1=>B_ fun t2=>pV (fun _=>e_ fun a j=>e_ fun b k=>oJ) fun _=>jj hn
theorem Mr:EA ts (xN ts) (fG ts G) i:=by
  unfold fG gW;refine e_ fun p j=>jk (V:=fun k _=>Real (ap ts (k - 1))) (Mk ?_) fun a k h=>tI h;exact e_ fun a k=>e_ fun b o=>pk fun t h=>jj h
theorem Gz:EA ts (xN ts) (dY ts G) i:=by
  unfold dY;refine zV (pV (fun h=>zU (tI (Dz h (by decide)))) fun _=>pV (fun h=>zU (tI (Dz h (by decide)))) fun _=>pV (fun _=>I5) fun _=>?_);refine lf (fun _=>e_ fun y j=>pk fun t h=>tI h) (lf (fun _=>?_) (JX fun q=>pV (fun _=>e_ fun y j=>oJ) fun _=>Pj));exact e_ fun a j=>e_ fun r k=>jk Mr fun b o h=>tI h.2
theorem Pp:EA ts (xN ts) (li ts G x) i:=by
  unfold li;exact e_ fun l j=>pk fun t h=>tI h
theorem IB (hx:xN ts i x):EA ts (fun j y=>xN ts j y.1) (eI ts G x) i:=by
  unfold eI;refine lf (fun _=>lf (fun _=>?_) ?_) (lf (fun _=>?_) (lf (fun _=>?_) (jj hx)))
  · exact e_ fun t j=>pk fun t h=>uI h fun y hy=>jj hy
  · exact FZ fun n hn=>uI hn.2 fun y hy=>jj hy
  · exact e_ fun t j=>pk fun t h=>uI h fun y hy=>jj hy
  · exact jk Pp fun y j hy=>jj hy
theorem uX:∀ (f:Nat) (x:No) (i:Nat),xN ts i x→EA ts (xN ts) (cw ts G f x) i
  | 0,_,_,_=>rK
  | f+1,x,i,hx=>by
    unfold cw;exact jk (IB hx) fun y j hy=>pV (fun _=>uX f _ _ hy) fun _=>jj hy
theorem Fs (hG:GE ts G):EA ts (xN ts) (fY ts G) i:=by
  unfold fY eX eT;exact zV (lf (fun _=>jk (hG.unary _) fun y j hy=>tI hy.2) (jk Gz fun y j hy=>uX _ _ _ hy))
theorem IQ (hG:GE ts G) {r:Nat}:∀ (f:Nat) (x:No) (i:Nat),xN ts i x→EA ts (xN ts) (j8 ts G r f x) i
  | 0,_,_,_=>rK
  | f+1,x,i,hx=>by
    unfold j8;exact zV (pV (fun _=>jk (hG.binary _ _ _ hx) fun y j hy=>IQ hG f _ _ hy) fun _=>jj hx)
theorem wi (hG:GE ts G) {r:Nat}:∀ (f:Nat) (x:No) (i:Nat),xN ts i x→EA ts (xN ts) (eM ts G r f x) i
  | 0,_,_,_=>rK
  | f+1,x,i,hx=>by
    unfold eM;refine zV (pV (fun _=>jj hx) fun _=>zU (jk (hG.unary _) fun y j hy=>jk (IQ hG _ _ _ hy) fun z k hz=>?_));exact uI hz.2 fun n hn=>wi hG f _ _ hn
theorem Ph (hG:GE ts G):EA ts (xN ts) (dM ts G) i:=by
  unfold dM js;exact jk (Fs hG) fun y j hy=>wi hG _ _ _ hy
theorem Pf:∀ n,GE ts (gr ts n)
  | 0=>⟨fun _=>rK,fun _ _ _ _=>rK⟩
  | n+1=>⟨fun _=>Fs (Pf n),fun x r i hx=>wi (Pf n) _ _ _ hx⟩
end
class GM (G:Gr):Prop where
  typ:Mo G.typ
  expr:Mo G.expr
  unary:Mo G.unary
  binary:∀ x r,Mo (G.binary x r)
  suffixes:∀ x,Mo (G.suffixes x)
  stmt:Mo G.stmt
  branch:Mo G.branch
section
variable {ts:List Tk} {G:Gr}
instance gm_typ [h:GM G]:Mo G.typ:=h.typ
instance gm_expr [h:GM G]:Mo G.expr:=h.expr
instance gm_unary [h:GM G]:Mo G.unary:=h.unary
instance gm_binary [h:GM G] {x:No} {r:Nat}:Mo (G.binary x r):=h.binary x r
instance gm_suffixes [h:GM G] {x:No}:Mo (G.suffixes x):=h.suffixes x
instance gm_stmt [h:GM G]:Mo G.stmt:=h.stmt
instance gm_branch [h:GM G]:Mo G.branch:=h.branch
theorem FH {σ:Type} {closing:ByteArray} {least:Nat} {one:σ→PM (No×σ)} (h1:∀ u,Mo (one u)):∀ (f:Nat) (u:σ) (out:List No),Mo (fp ts closing least one f u out)
  | 0,_,_=>mo_none
  | f+1,u,out=>by
    have:=FH (closing:=closing) (least:=least) h1 f;unfold fp
    infer_instance
instance mo_listI {σ:Type} {closing:ByteArray} {least:Nat} {one:σ→PM (No×σ)} [h1:∀ u,Mo (one u)] {f:Nat} {u:σ} {out:List No}:Mo (fp ts closing least one f u out):=FH h1 f u out
theorem I9 {ends:Tk→Bool} {one:PM (No×Bool)} (h1:Mo one):∀ (f:Nat) (out:List No),Mo (rowP ts ends one f out)
  | 0,_=>mo_none
  | f+1,out=>by
    have:=I9 (ends:=ends) h1 f;unfold rowP
    infer_instance
instance mo_rowI {ends:Tk→Bool} {one:PM (No×Bool)} [h1:Mo one] {f:Nat} {out:List No}:Mo (rowP ts ends one f out):=I9 h1 f out
instance mo_braced {one:PM (No×Bool)} [h1:Mo one]:Mo (gW ts one):=by unfold gW;infer_instance
instance mo_paramOne [GM G] {q:Bool}:Mo (gC ts G q):=by unfold gC;infer_instance
instance mo_params [GM G]:Mo (iu ts G):=by unfold iu;infer_instance
instance mo_plain {x:PM No} [h:Mo x] {u:Unit}:Mo (plain x u):=by unfold plain;infer_instance
instance mo_results [GM G]:Mo (eW ts G):=by unfold eW;infer_instance
instance mo_types {σ:Type} {one:σ→PM (No×σ)} [h:∀ u,Mo (one u)] {u:σ}:Mo (kV ts one u):=by unfold kV;infer_instance
instance mo_funcOne [GM G] {q:Bool}:Mo (jg ts G q):=by unfold jg;infer_instance
instance mo_funcType [GM G] {fr:Int}:Mo (fW ts G fr):=by unfold fW;infer_instance
instance mo_field [GM G]:Mo (l_ ts G):=by
  unfold l_
  repeat' (first | refine Mo.bind inferInstance fun _=>?_ | refine @mo_ite _ _ _ _ _ ?_ ?_ | infer_instance | split)
instance mo_element [GM G]:Mo (im ts G):=by
  unfold im
  repeat' (first | refine Mo.bind inferInstance fun _=>?_ | refine @mo_ite _ _ _ _ _ ?_ ?_ | infer_instance | split)
instance mo_typ6 [GM G] {fr:Int}:Mo (qP ts G fr):=by unfold qP;infer_instance
instance mo_typ [GM G]:Mo (pr ts G):=by
  unfold pr
  repeat' (first | refine Mo.bind inferInstance fun _=>?_ | refine @mo_ite _ _ _ _ _ ?_ ?_ | infer_instance | split)
instance mo_compOne [GM G] {u:Unit}:Mo (jm ts G u):=by unfold jm;infer_instance
instance mo_composite [GM G] {fr:Int} {t:No}:Mo (cU ts G fr t):=by unfold cU;infer_instance
instance mo_opName [GM G]:Mo (gh ts G):=by
  unfold gh
  repeat' (first | refine Mo.bind inferInstance fun _=>?_ | refine @mo_ite _ _ _ _ _ ?_ ?_ | infer_instance | split)
instance mo_block [GM G]:Mo (fG ts G):=by unfold fG;infer_instance
instance mo_arg [GM G]:Mo (sN ts G):=by unfold sN;infer_instance
instance mo_operand [GM G]:Mo (dY ts G):=by
  unfold dY
  repeat' (first | refine Mo.bind inferInstance fun _=>?_ | refine @mo_ite _ _ _ _ _ ?_ ?_ | infer_instance | split)
instance mo_callOne [GM G] {q:Bool}:Mo (jq ts G q):=by unfold jq;infer_instance
instance mo_call [GM G] {x:No}:Mo (li ts G x):=by unfold li;infer_instance
instance mo_suffix [GM G] {x:No}:Mo (eI ts G x):=by
  unfold eI
  repeat' (first | refine Mo.bind inferInstance fun _=>?_ | refine @mo_ite _ _ _ _ _ ?_ ?_ | infer_instance | split)
theorem mU [GM G]:∀ (f:Nat) (x:No),Mo (cw ts G f x)
  | 0,_=>mo_none
  | f+1,x=>by
    have:=mU f;unfold cw
    infer_instance
instance mo_suffixes [GM G] {x:No}:Mo (eT ts G x):=mU _ x
instance mo_primary [GM G]:Mo (eX ts G):=by unfold eX;infer_instance
instance mo_unary [GM G]:Mo (fY ts G):=by unfold fY;infer_instance
theorem zp [GM G] {r:Nat}:∀ (f:Nat) (x:No),Mo (j8 ts G r f x)
  | 0,_=>mo_none
  | f+1,x=>by
    have:=zp (r:=r) f;unfold j8
    infer_instance
instance mo_riseI [GM G] {r f:Nat} {x:No}:Mo (j8 ts G r f x):=zp f x
theorem qo [GM G] {r:Nat}:∀ (f:Nat) (x:No),Mo (eM ts G r f x)
  | 0,_=>mo_none
  | f+1,x=>by
    have:=qo (r:=r) f;unfold eM
    infer_instance
instance mo_binary [GM G] {x:No} {r:Nat}:Mo (js ts G x r):=qo _ x
instance mo_expr [GM G]:Mo (dM ts G):=by unfold dM;infer_instance
instance mo_variable [GM G]:Mo (fk ts G):=by unfold fk;infer_instance
instance mo_constant [GM G]:Mo (fx ts G):=by unfold fx;infer_instance
instance mo_called [GM G] {k fr:Int}:Mo (jp ts G k fr):=by unfold jp;infer_instance
theorem vu [GM G]:∀ (f:Nat) (l:List No),Mo (jb ts G f l)
  | 0,_=>mo_none
  | f+1,l=>by
    have:=vu f;unfold jb
    infer_instance
instance mo_more [GM G] {f:Nat} {l:List No}:Mo (jb ts G f l):=vu f l
instance mo_exprs [GM G]:Mo (gI ts G):=by unfold gI;infer_instance
instance mo_simpleOr [GM G] {σ:Type} {o:List No→PM (Option σ)} [ho:∀ l,Mo (o l)]:Mo (dx ts G o):=by
  unfold dx
  repeat' (first | refine Mo.bind inferInstance fun _=>?_ | refine @mo_ite _ _ _ _ _ ?_ ?_ | infer_instance | split)
instance mo_simple [GM G]:Mo (gg ts G):=by unfold gg;infer_instance
instance mo_ifHead [GM G]:Mo (jX ts G):=by unfold jX;infer_instance
instance mo_branch [GM G]:Mo (jr ts G):=by
  unfold jr
  repeat' (first | refine Mo.bind inferInstance fun _=>?_ | refine @mo_ite _ _ _ _ _ ?_ ?_ | infer_instance | split)
instance mo_ranged [GM G] {l:List No}:Mo (gU ts G l):=by unfold gU;infer_instance
instance mo_forOr [GM G] {l:List No}:Mo (mC ts G l):=by unfold mC;infer_instance
instance mo_forTail [GM G] {n:No}:Mo (gG ts G n):=by
  unfold gG
  repeat' (first | refine Mo.bind inferInstance fun _=>?_ | refine @mo_ite _ _ _ _ _ ?_ ?_ | infer_instance | split)
instance mo_forHead [GM G]:Mo (il ts G):=by
  unfold il
  repeat' (first | refine Mo.bind inferInstance fun _=>?_ | refine @mo_ite _ _ _ _ _ ?_ ?_ | infer_instance | split)
instance mo_loop [GM G] {fr:Int}:Mo (pQ ts G fr):=by
  unfold pQ
  repeat' (first | refine Mo.bind inferInstance fun _=>?_ | refine @mo_ite _ _ _ _ _ ?_ ?_ | infer_instance | split)
instance mo_caseOne [GM G] {k:Int} {head:PM No} [h:Mo head]:Mo (jo ts G k head):=by unfold jo;infer_instance
theorem o_ [GM G] {k:Int} {head:PM No} [h:Mo head]:∀ (f:Nat) (l:List No),Mo (jn ts G k head f l)
  | 0,_=>mo_none
  | f+1,l=>by
    have:=o_ (k:=k) (head:=head) f;unfold jn
    infer_instance
instance mo_cases [GM G] {k:Int} {head:PM No} [h:Mo head]:Mo (jO ts G k head):=by
  have:=o_ (ts:=ts) (G:=G) (k:=k) (head:=head) (ts.length+1);unfold jO
  infer_instance
instance mo_several [GM G]:Mo (gq ts G):=by unfold gq;infer_instance
instance mo_choice [GM G] {fr:Int}:Mo (jZ ts G fr):=by unfold jZ;infer_instance
instance mo_comm [GM G]:Mo (oL ts G):=by
  unfold oL
  repeat' (first | refine Mo.bind inferInstance fun _=>?_ | refine @mo_ite _ _ _ _ _ ?_ ?_ | infer_instance | split)
instance mo_comms [GM G] {fr:Int}:Mo (mc ts G fr):=by unfold mc;infer_instance
instance mo_okN {x:PM No} [h:Mo x]:Mo (pw x):=by unfold pw;infer_instance
instance mo_stmt2 [GM G] {fr:Int}:Mo (mP ts G fr):=by
  unfold mP
  repeat' (first | refine Mo.bind inferInstance fun _=>?_ | refine @mo_ite _ _ _ _ _ ?_ ?_ | infer_instance | split)
instance mo_stmt [GM G]:Mo (pL ts G):=by
  unfold pL
  repeat' (first | refine Mo.bind inferInstance fun _=>?_ | refine @mo_ite _ _ _ _ _ ?_ ?_ | infer_instance | split)
instance gm_step [GM G]:GM (stepG ts G):=⟨mo_typ,mo_expr,mo_unary,fun _ _=>mo_binary,fun _=>mo_suffixes,mo_stmt,mo_branch⟩
instance gm_gr:∀ {n:Nat},GM (gr ts n)
  | 0=>⟨mo_none,mo_none,mo_none,fun _ _=>mo_none,fun _=>mo_none,mo_none,mo_none⟩
  | n+1=>by
    have:=gm_gr (n:=n);exact gm_step
theorem DR [GM G]:∀ (f:Nat) (l:List No),Mo (C4 ts G f l)
  | 0,_=>mo_none
  | f+1,l=>by
    have:=DR f;unfold C4
    infer_instance
instance mo_or [GM G] {f:Nat} {l:List No}:Mo (C4 ts G f l):=DR f l
instance mo_typeParam [GM G]:Mo (eA ts G):=by unfold eA;infer_instance
instance mo_recv:Mo (pN ts):=by unfold pN;infer_instance
instance mo_tparams [GM G]:Mo (iY ts G):=by unfold iY;infer_instance
instance mo_function [GM G]:Mo (fV ts G):=by
  unfold fV
  repeat' (first | refine Mo.bind inferInstance fun _=>?_ | refine @mo_ite _ _ _ _ _ ?_ ?_ | infer_instance | split)
instance mo_decl [GM G]:Mo (pW ts G):=by unfold pW;infer_instance
theorem oA:∀ (f:Nat) (l:List No) (p:Int),Mo (eE ts f l p)
  | 0,_,_=>mo_none
  | f+1,l,p=>by
    have:=oA f;unfold eE
    infer_instance
instance mo_imports {f:Nat} {l:List No} {p:Int}:Mo (eE ts f l p):=oA f l p
theorem sw [GM G]:∀ (f:Nat) (l:List No) (p:Int),Mo (iE ts G f l p)
  | 0,_,_=>mo_none
  | f+1,l,p=>by
    have:=sw f;unfold iE
    infer_instance
instance mo_decls [GM G] {f:Nat} {l:List No} {p:Int}:Mo (iE ts G f l p):=sw f l p
end
set_option synthInstance.maxSize 100000
set_option synthInstance.maxHeartbeats 400000
def VP {σ:Type} (a c:No×σ):Prop:=EN a.1 c.1∧a.2=c.2
def VQ {σ:Type} (a c:List No×σ):Prop:=EL a.1 c.1∧a.2=c.2
structure SG (ts aP:List Tk) (d j:Nat) (G G':Gr):Prop where
  mo:GM G
  typ:∀ m,m≤j→SR d m 0 EN G.typ G'.typ
  expr:∀ m,m≤j→SR d m 0 EN G.expr G'.expr
  unary:∀ m,m≤j→SR d m 0 EN G.unary G'.unary
  binary:∀ m x x' r,m≤j→0<r→EN x x'→SR d m 0 EN (G.binary x r) (G'.binary x' r)
  suffixes:∀ m x x',m≤j→EN x x'→SR d m 0 EN (G.suffixes x) (G'.suffixes x')
  stmt:∀ m,m<j→SR d m 0 VP G.stmt G'.stmt
  branch:∀ m,m<j→SR d m 0 EN G.branch G'.branch
section
variable {ts aP:List Tk} {d j m lo:Nat} {G G':Gr} {l l':List ByteArray}
theorem oB (K:SK ts aP d j) (hm:m<j) {σ:Type} {closing:ByteArray} {least:Nat} {one one':σ→PM (No×σ)} [ho:∀ u,Mo (one u)] (h1:∀ u,SR d m 0 VP (one u) (one' u)) :
    ∀ (f f':Nat) (u:σ) (out out':List No),f≤f'→EL out out'→SR d m 0 VQ (fp ts closing least one f u out) (fp aP closing least one' f' u out')
  | 0,_,_,_,_,_,_=>eV
  | f+1,0,_,_,_,h,_=>by omega
  | f+1,f'+1,u,out,out',h,ho=>by
    unfold fp;refine Ov K hm fun q=>dw (by rw [ho.len]) (fun _ _=>aL ⟨ho,rfl⟩) fun _ _=>ax (h1 u) fun x x' hx=>?_;refine cz K (Nat.le_of_lt hm) ?_ (aL ⟨ho.snoc hx.1,hx.2⟩);rw [hx.2];exact oB K hm h1 f f' _ _ _ (by omega) (ho.snoc hx.1)
theorem IM (K:SK ts aP d j) (hm:m<j) {ends:Tk→Bool} (he:∀ t t',TS t t'→ends t=ends t') {one one':PM (No×Bool)} [ho:Mo one] (h1:SR d m 0 VP one one') :
    ∀ (f f':Nat) (out out':List No),f≤f'→EL out out'→SR d m 0 EL (rowP ts ends one f out) (rowP aP ends one' f' out')
  | 0,_,_,_,_,_=>eV
  | f+1,0,_,_,h,_=>by omega
  | f+1,f'+1,out,out',h,ho=>by
    unfold rowP;refine fi K hm fun t t' ht=>dw (by rw [he t t' ht]) (fun _ _=>aL ho) fun _ _=>ax h1 fun x x' hx=>?_
    have e:EL (if x.2=true then out ++ [x.1] else out) (if x'.2=true then out' ++ [x'.1] else out'):=by
      rw [← hx.2];split
      · exact ho.snoc hx.1
      · exact ho
    refine fi K hm fun t t' ht=>dw (by rw [he t t' ht]) (fun _ _=>aL e) fun _ _=>?_;exact o4 K (Nat.le_of_lt hm) (IM K hm he h1 f f' _ _ (by omega) e)
theorem wg (K:SK ts aP d j) (hm:m≤j) {one one':PM (No×Bool)} [ho:Mo one] (h1:∀ m',m'<j→SR d m' 0 VP one one'):SR d m lo EL (gW ts one) (gW aP one'):=by
  unfold gW;refine eJ K hm fun t t' ht=>?_;exact ii K hm (fun m' dP=>IM K (by omega) (fun t t' ht=>ht.one) (h1 m' (by omega)) _ _ _ _ (by have:=K.le;omega) EL.nil) fun a a' t t' ha=>aL ha
theorem mN (K:SK ts aP d j) (hm:m≤j):SR d m lo EN (dk ts) (dk aP):=by
  unfold dk;refine eK K hm fun n n' hn=>cz K hm ?_ (aL hn);exact eK K hm fun k k' hk=>dv (B9 hn hk)
theorem DC (K:SK ts aP d j) (hm:m≤j) (S:SG ts aP d j G G') (q:Bool):SR d m lo VP (gC ts G q) (gC aP G' q):=by
  have:=S.mo;unfold gC;refine qj jJ (i_ fun p p'=>eK K hm fun n n' hn=>lE K hm fun c=>?_);exact ax (S.typ m hm) fun t t' ht=>eL (B9 hn ht) fun x x' hx=>aL ⟨hx,rfl⟩
theorem Bt (K:SK ts aP d j) (hm:m≤j) (S:SG ts aP d j G G'):SR d m lo EN (iu ts G) (iu aP G'):=by
  have:=S.mo;unfold iu;refine eJ K hm fun t t' ht=>?_;exact ii K hm (fun m' dP=>oB K (by omega) (fun u=>DC K (by omega) S u) _ _ _ _ _ (by have:=K.le;omega) EL.nil) fun a a' t t' ha=>dv ha.1
theorem uz {x x':PM No} {u:Unit} [Mo x] (hx:SR d m 0 EN x x'):SR d m lo VP (plain x u) (plain x' u):=by
  unfold plain;exact ax hx.up0 fun a a' h=>aL ⟨h,rfl⟩
theorem o8 (K:SK ts aP d j) (hm:m≤j) (S:SG ts aP d j G G'):SR d m lo EN (eW ts G) (eW aP G'):=by
  have:=S.mo;unfold eW;refine ot K hm (kI K hm fun t t' ht=>?_) (uZ K hm fun t t' ht=>dw (by rw [ht.typed]) (fun _ _=>?_) fun _ _=>Ba)
  · exact ii K hm (fun m' dP=>oB K (by omega) (fun u=>uz (S.typ m' (by omega))) _ _ _ _ _ (by have:=K.le;omega) EL.nil) fun a a' t t' ha=>dv ha.1
  · exact ax (S.typ m hm).up0 fun x x' hx=>dv (xq hx)
theorem Ft (K:SK ts aP d j) (hm:m<j) {σ:Type} {one one':σ→PM (No×σ)} {u:σ} [ho:∀ u,Mo (one u)] (h1:∀ u,SR d m 0 VP (one u) (one' u)):SR d m lo VP (kV ts one u) (kV aP one' u):=by
  unfold kV;refine ax Ba fun n n' hn=>ax (oB K hm h1 _ _ _ _ _ (by have:=K.le;omega) EL.nil) fun a a' ha=>aL ⟨?_,ha.2⟩;unfold De;have h:=hn.inv;rw [h.1,h.2.1];exact EN.mk ha.1 rfl
theorem G3 (K:SK ts aP d j) (hm:m≤j) (S:SG ts aP d j G G') (q:Bool):SR d m lo VP (jg ts G q) (jg aP G' q):=by
  have:=S.mo;unfold jg;exact qj jJ (lE K hm fun c=>ax (S.typ m hm) fun x x' hx=>aL ⟨hx,rfl⟩)
theorem EB (K:SK ts aP d j) (hm:m≤j) (S:SG ts aP d j G G') {fr fr':Int}:SR d m lo EN (fW ts G fr) (fW aP G' fr'):=by
  have:=S.mo;unfold fW;refine eJ K hm fun t t' ht=>?_;refine ii K hm (fun m' dP=>Ft K (by omega) fun u=>G3 K (by omega) S u) fun a a' t t' ha=>?_;exact ax (o8 K hm S) fun r r' hr=>dv (B9 ha.1 hr) (by rw [ha.2])
theorem Mh (K:SK ts aP d j) (hm:m<j) (S:SG ts aP d j G G'):SR d m lo VP (l_ ts G) (l_ aP G'):=by
  have:=S.mo;have dP:=Nat.le_of_lt hm;unfold l_;refine i_ fun p p'=>eK K dP fun n n' hn=>fi K hm fun t t' ht=>dw (by rw [ht.one]) (fun _ _=>?_) fun _ _=>dw (by rw [ht.one,ht.1]) (fun _ _=>?_) fun _ _=>?_
  · exact yV (ax (mN K dP) fun x x' hx=>eL (xq hx) fun y y' hy=>aL ⟨hy,rfl⟩)
  · exact eL (xq hn) fun y y' hy=>aL ⟨hy,rfl⟩
  · exact ax (S.typ m dP).up0 fun x x' hx=>eL (B9 hn hx) fun y y' hy=>aL ⟨hy,rfl⟩
theorem G7 (K:SK ts aP d j) (hm:m≤j) (S:SG ts aP d j G G'):SR d m lo VP (im ts G) (im aP G'):=by
  have:=S.mo;unfold im;refine i_ fun p p'=>eK K hm fun n n' hn=>ot K hm (kI K hm fun t t' ht=>?_) ?_
  · refine ii K hm (fun m' dP=>Ft K (by omega) fun u=>uz (S.typ m' (by omega))) fun a a' t t' ha=>?_
    exact ax (o8 K hm S) fun r r' hr=>eL (Ny hn ha.1 hr) fun y y' hy=>aL ⟨hy,rfl⟩
  · exact yV (ax (mN K hm) fun x x' hx=>eL (xq hx) fun y y' hy=>aL ⟨hy,rfl⟩)
theorem Oo (K:SK ts aP d j) (hm:m≤j) (S:SG ts aP d j G G') {fr fr':Int}:SR d m lo EN (qP ts G fr) (qP aP G' fr'):=by
  have:=S.mo;unfold qP;refine cz K hm (ax (wg K hm fun m' dP=>G7 K (by omega) S) fun a a' ha=>dv ha) ?_;exact cz K hm (ax (S.typ m hm) fun t t' ht=>eJ K hm fun _ _ _=>dv (xq ht)) jJ
theorem uT (K:SK ts aP d j) (hm:m≤j) (S:SG ts aP d j G G'):SR d m lo EN (pr ts G) (pr aP G'):=by
  have:=S.mo;unfold pr;refine uZ K hm fun t t' ht=>dw ht.k (fun _ _=>mN K hm) fun _ _=>?_;refine cz K hm (ax (S.typ m hm) fun x x' hx=>dv (xq hx)) ?_;refine cz K hm (eJ K hm fun _ _ _=>ax (S.typ m hm) fun x x' hx=>dv (xq hx)) ?_;refine cz K hm (ax (S.typ m hm) fun x x' hx=>dv (xq hx)) ?_;refine cz K hm (EB K hm S) ?_;exact cz K hm (ax (wg K hm fun m' dP=>Mh K dP S) fun a a' ha=>dv ha) (Oo K hm S)
end
set_option synthInstance.maxSize 100000
set_option synthInstance.maxHeartbeats 400000
section
variable {ts aP:List Tk} {d j m lo:Nat} {G G':Gr} {l l':List No} {x x':No}
theorem G_ (K:SK ts aP d j) (hm:m<j) (S:SG ts aP d j G G') (u:Unit):SR d m lo VP (jm ts G u) (jm aP G' u):=by
  have:=S.mo;have dP:=Nat.le_of_lt hm;unfold jm;refine fi K hm fun t t' ht=>qW K dP fun t1 V8 OI=>dw (by rw [ht.1,OI.one]) (fun _ _=>?_) fun _ _=>?_
  · exact eK K dP fun n n' hn=>eJ K dP fun _ _ _=>ax (S.expr m dP) fun y y' hy=>eL (B9 hn hy) fun z z' hz=>aL ⟨hz,rfl⟩
  · exact ax (S.expr m dP).up0 fun y y' hy=>aL ⟨hy,rfl⟩
theorem lN (K:SK ts aP d j) (hm:m≤j) (S:SG ts aP d j G G') {fr fr':Int} {t t':No} (ht:EN t t'):SR d m lo EN (cU ts G fr t) (cU aP G' fr' t'):=by
  have:=S.mo;unfold cU;refine eJ K hm fun _ _ _=>?_;exact ii K hm (fun m' dP=>kJ (oB K (by omega) (fun u=>G_ K (by omega) S u) _ _ _ _ _ (by have:=K.le;omega) EL.nil)) fun a a' _ _ ha=>dv (EL.cons ht ha.1)
theorem I4 (K:SK ts aP d j) (hm:m≤j) (S:SG ts aP d j G G'):SR d m lo EN (gh ts G) (gh aP G'):=by
  have:=S.mo;unfold gh;refine eK K hm fun n n' hn=>Lw fun b=>qj (aL hn) (ot K hm (lN K hm S hn) ?_);refine pM K hm fun q=>qW K hm fun t1 V8 h1=>qW K hm fun t2 t2' h2=>dw (by rw [h1.k (c:=1),h2.one]) (fun _ _=>?_) fun _ _=>aL hn;exact yV (ax (mN K hm) fun t t' ht=>lN K hm S ht)
theorem pn (K:SK ts aP d j) (hm:m≤j) (S:SG ts aP d j G G'):SR d m lo EN (fG ts G) (fG aP G'):=by
  have:=S.mo;unfold fG;exact i_ fun p p'=>ax (kJ (wg K hm fun m' dP=>S.stmt m' dP)) fun a a' ha=>dv ha
theorem NF (K:SK ts aP d j) (hm:m≤j) (S:SG ts aP d j G G'):SR d m lo EN (sN ts G) (sN aP G'):=by
  have:=S.mo;unfold sN;refine ot K hm (i_ fun p p'=>pM K hm fun sl=>ax (S.typ m hm).up0 fun t t' ht=>pM K hm fun q=>dw Iff.rfl (fun _ _=>?_) fun _ _=>aL ht) (S.expr m hm).up0;exact ax (lN K hm S ht) fun y y' hy=>ax (S.suffixes m _ _ hm hy) fun z z' hz=>S.binary m _ _ _ hm (by decide) hz
theorem Gy (K:SK ts aP d j) (hm:m≤j) (S:SG ts aP d j G G'):SR d m lo EN (dY ts G) (dY aP G'):=by
  have:=S.mo;unfold dY;refine uZ K hm fun t t' ht=>dw ht.k (fun h _=>iZ (dv EL.nil (ht.same h).2)) fun _ _=>dw ht.k (fun h _=>iZ (dv EL.nil (ht.same h).2)) fun _ _=>dw ht.k (fun _ _=>I4 K hm S) fun _ _=>?_;refine cz K hm (ax (kJ (S.expr m hm)) fun y y' hy=>eJ K hm fun _ _ _=>dv (xq hy)) ?_;refine cz K hm (ax (Bt K hm S) fun a a' ha=>ax (o8 K hm S) fun r r' hr=>ax (pn K hm S) fun b b' hb=>dv (Ny ha hr hb)) ?_;exact ot K hm (ax (uT K hm S) fun y y' hy=>lN K hm S hy) jJ
theorem Hb (K:SK ts aP d j) (hm:m≤j) (S:SG ts aP d j G G') (q:Bool):SR d m lo VP (jq ts G q) (jq aP G' q):=by
  have:=S.mo;unfold jq;exact qj jJ (ax (NF K hm S) fun y y' hy=>lE K hm fun c=>aL ⟨hy,rfl⟩)
theorem Po (K:SK ts aP d j) (hm:m≤j) (S:SG ts aP d j G G') (hx:EN x x'):SR d m lo EN (li ts G x) (li aP G' x'):=by
  have:=S.mo;unfold li;exact ii K hm (fun m' dP=>kJ (oB K (by omega) (fun u=>Hb K (by omega) S u) _ _ _ _ _ (by have:=K.le;omega) EL.nil)) fun a a' _ _ ha=>dv (EL.cons hx ha.1) (by rw [ha.2])
theorem IA (K:SK ts aP d j) (hm:m≤j) (S:SG ts aP d j G G') (hx:EN x x'):SR d m lo VP (eI ts G x) (eI aP G' x'):=by
  have:=S.mo;unfold eI;refine cz K hm (cz K hm ?_ ?_) (cz K hm ?_ (cz K hm ?_ (aL ⟨hx,rfl⟩)))
  · exact ax (S.typ m hm) fun t t' ht=>eJ K hm fun _ _ _=>eL (B9 hx ht) fun y y' hy=>aL ⟨hy,rfl⟩
  · exact eK K hm fun n n' hn=>eL (B9 hx hn) fun y y' hy=>aL ⟨hy,rfl⟩
  · exact ii K hm (fun m' dP=>kJ (oB K (by omega) (fun u=>uz (NF K (by omega) S)) _ _ _ _ _ (by have:=K.le;omega) EL.nil)) fun a a' _ _ ha=>eL (EL.cons hx ha.1) fun y y' hy=>aL ⟨hy,rfl⟩
  · exact ax (Po K hm S hx) fun y y' hy=>aL ⟨hy,rfl⟩
theorem ti (K:SK ts aP d j) (hm:m≤j) (S:SG ts aP d j G G'):∀ (f f':Nat) (x x':No),f≤f'→EN x x'→SR d m 0 EN (cw ts G f x) (cw aP G' f' x')
  | 0,_,_,_,_,_=>eV
  | f+1,0,_,_,h,_=>by omega
  | f+1,f'+1,x,x',h,hx=>by
    have:=S.mo;have:=mU (ts:=ts) (G:=G) f;unfold cw;exact ax (IA K hm S hx) fun y y' hy=>dw (by rw [hy.2]) (fun _ _=>ti K hm S f f' _ _ (by omega) hy.1) fun _ _=>aL hy.1
theorem uW (K:SK ts aP d j) (hm:m≤j) (S:SG ts aP d j G G') (hx:EN x x'):SR d m 0 EN (eT ts G x) (eT aP G' x'):=ti K hm S _ _ _ _ (by have:=K.le;omega) hx
theorem xW (K:SK ts aP d j) (hm:m≤j) (S:SG ts aP d j G G'):SR d m lo EN (eX ts G) (eX aP G'):=by
  have:=S.mo;unfold eX;exact ax (Gy K hm S) fun y y' hy=>uW K hm S hy
theorem yI (K:SK ts aP d j) (hm:m≤j) (S:SG ts aP d j G G'):SR d m lo EN (fY ts G) (fY aP G'):=by
  have:=S.mo;unfold fY;exact Dj K hm (fun t t' ht=>ax (S.unary m hm) fun y y' hy=>dv (xq hy) ht.2) fun t t' ht=>xW K hm S
theorem IP (K:SK ts aP d j) (hm:m≤j) (S:SG ts aP d j G G') {r:Nat}:∀ (f f':Nat) (x x':No),f≤f'→EN x x'→SR d m 0 EN (j8 ts G r f x) (j8 aP G' r f' x')
  | 0,_,_,_,_,_=>eV
  | f+1,0,_,_,h,_=>by omega
  | f+1,f'+1,x,x',h,hx=>by
    have:=S.mo;have:=zp (ts:=ts) (G:=G) (r:=r) f;unfold j8;exact uZ K hm fun t t' ht=>dw (by rw [ht.rank]) (fun _ _=>ax (S.binary m _ _ _ hm (by omega) hx) fun y y' hy=>IP K hm S f f' _ _ (by omega) hy) fun _ _=>aL hx
theorem yq (K:SK ts aP d j) (hm:m≤j) (S:SG ts aP d j G G') {r:Nat} (hr:0<r):∀ (f f':Nat) (x x':No),f≤f'→EN x x'→SR d m 0 EN (eM ts G r f x) (eM aP G' r f' x')
  | 0,_,_,_,_,_=>eV
  | f+1,0,_,_,h,_=>by omega
  | f+1,f'+1,x,x',h,hx=>by
    have:=S.mo;have:=qo (ts:=ts) (G:=G) (r:=r) f;unfold eM;refine uZ K hm fun t t' ht=>dw (by rw [ht.rank]) (fun _ _=>aL hx) fun h1 _=>?_
    have hs:TS t t':=by
      rcases ht with ht | ⟨ht,-⟩
      · exact ht
      · exact absurd hr (by rw [ht.rank] at h1;exact h1)
    rw [hs.rank];refine iZ (ax (S.unary m hm) fun y y' hy=>ax (IP K hm S _ _ _ _ (by have:=K.le;omega) hy) fun z z' hz=>?_);exact eL (B9 hx hz) (fun n n' hn=>yq K hm S hr f f' _ _ (by omega) hn) hs.2
theorem Cu (K:SK ts aP d j) (hm:m≤j) (S:SG ts aP d j G G') {r:Nat} (hr:0<r) (hx:EN x x'):SR d m 0 EN (js ts G x r) (js aP G' x' r):=yq K hm S hr _ _ _ _ (by have:=K.le;omega) hx
theorem iD (K:SK ts aP d j) (hm:m≤j) (S:SG ts aP d j G G'):SR d m lo EN (dM ts G) (dM aP G'):=by
  have:=S.mo;unfold dM;exact ax (yI K hm S) fun y y' hy=>Cu K hm S (by decide) hy
theorem zo (K:SK ts aP d j) (hm:m≤j) (S:SG ts aP d j G G'):∀ (f f':Nat) (l l':List No),f≤f'→EL l l'→SR d m 0 EL (jb ts G f l) (jb aP G' f' l')
  | 0,_,_,_,_,_=>eV
  | f+1,0,_,_,h,_=>by omega
  | f+1,f'+1,l,l',h,hl=>by
    have:=S.mo;have:=vu (ts:=ts) (G:=G) f;unfold jb;exact cz K hm (ax (iD K hm S) fun y y' hy=>zo K hm S f f' _ _ (by omega) (hl.snoc hy)) (aL hl)
theorem uH (K:SK ts aP d j) (hm:m≤j) (S:SG ts aP d j G G'):SR d m lo EL (gI ts G) (gI aP G'):=by
  have:=S.mo;unfold gI;exact ax (iD K hm S) fun y y' hy=>zo K hm S _ _ _ _ (by have:=K.le;omega) (xq hy)
end
set_option synthInstance.maxSize 100000
set_option synthInstance.maxHeartbeats 400000
def OR {σ τ:Type} (W:σ→τ→Prop):Option σ→Option τ→Prop
  | none,none=>True
  | some a,some b=>W a b
  | _,_=>False
def SU {σ τ ρ υ:Type} (V:σ→τ→Prop) (W:ρ→υ→Prop):σ ⊕ ρ→τ ⊕ υ→Prop
  | .inl a,.inl b=>V a b
  | .inr a,.inr b=>W a b
  | _,_=>False
def P2 (a b:No×No):Prop:=EN a.1 b.1∧EN a.2 b.2
def P3 (a b:No×No×No):Prop:=EN a.1 b.1∧EN a.2.1 b.2.1∧EN a.2.2 b.2.2
section
variable {ts aP:List Tk} {d j m lo:Nat} {G G':Gr} {l l':List No} {x x':No} {fr fr':Int}
theorem ov {α β γ δ:Type} {V:α→γ→Prop} {U:β→δ→Prop} {x:PM α} {x':PM γ} {f:α→PM β} {f':γ→PM δ} (h:SR d m lo V x x') (hm:∀ a,Mo (f a)) (hf:∀ a a',V a a'→SR d m 0 U (f a) (f' a')):SR d m lo U (x >>= f) (x' >>= f'):=ax h hf
theorem IE {β δ:Type} {U:β→δ→Prop} {f:Unit→PM β} {f':Unit→PM δ} (hm:∀ a,Mo (f a)) (hf:SR d m 0 U (f ()) (f' ())):SR d m lo U (h_ >>= f) (h_ >>= f'):=iZ hf
theorem iA (h:EL l l'):EN (aB l) (aB l'):=EN.mk h rfl
theorem qV {c:Prop} [Decidable c] {y y':PM No} (h:SR d m lo EN y y'):SR d m lo EN (if c then pure bo else y) (if c then pure bo else y'):=dw Iff.rfl (fun _ _=>aL (EN.refl _)) fun _ _=>h
theorem sr {c:Prop} [Decidable c] {y y':PM No} (h:SR d m lo EN y y'):SR d m lo EN (if c then y else pure bo) (if c then y' else pure bo):=dw Iff.rfl (fun _ _=>h) fun _ _=>aL (EN.refl _)
theorem uR (K:SK ts aP d j) (hm:m<j) (S:SG ts aP d j G G'):SR d m lo EN (fk ts G) (fk aP G'):=by
  have:=S.mo;have dP:=Nat.le_of_lt hm;unfold fk;exact kI K dP fun t t' ht=>eK K dP fun n n' hn=>pM K dP fun q=>ax (qV (uT K dP S)) fun y y' hy=>lE K dP fun q=>ax (sr (iD K dP S)) fun z z' hz=>dv (Ny hn hy hz)
theorem vX (K:SK ts aP d j) (hm:m<j) (S:SG ts aP d j G G'):SR d m lo EN (fx ts G) (fx aP G'):=by
  have:=S.mo;have dP:=Nat.le_of_lt hm;unfold fx;exact kI K dP fun t t' ht=>eK K dP fun n n' hn=>pM K dP fun q=>ax (qV (uT K dP S)) fun y y' hy=>eJ K dP fun _ _ _=>ax (iD K dP S) fun z z' hz=>dv (Ny hn hy hz)
theorem Cp (K:SK ts aP d j) (hm:m<j) (S:SG ts aP d j G G') {k:Int}:SR d m lo EN (jp ts G k fr) (jp aP G' k fr'):=by
  have:=S.mo;have dP:=Nat.le_of_lt hm;unfold jp;exact ax (xW K dP S) fun y y' hy=>dw (by rw [hy.inv.1]) (fun _ _=>dv (xq hy)) fun _ _=>jJ
theorem u7 (K:SK ts aP d j) (hm:m<j) (S:SG ts aP d j G G') {σ τ:Type} {W:σ→τ→Prop} {o:List No→PM (Option σ)} {o':List No→PM (Option τ)} [ho:∀ l,Mo (o l)] (h1:∀ l l',EL l l'→SR d m 0 (OR W) (o l) (o' l')):SR d m lo (SU EN W) (dx ts G o) (dx aP G' o'):=by
  have:=S.mo;have dP:=Nat.le_of_lt hm
  have YL:∀ (a:Option σ) (l:List No) (fr:Int),Mo (match a with
    | some u=>(pure (.inr u):PM (No ⊕ σ))
    | none=>do
      let r ← gI ts G
      let y ← bd ts 64 fr ⟨#[]⟩ [aB l,aB r]
      pure (.inl y)):=fun a l fr=>by cases a <;> infer_instance
  unfold dx;refine i_ fun p p'=>ov (uH K dP S) (fun a=>?_) fun l l' hl=>fi K hm fun t t' ht=>?_
  · repeat' (first | refine Mo.bind inferInstance fun _=>?_ | refine @mo_ite _ _ _ _ _ ?_ ?_ | infer_instance | split)
  have e1:=hl.len;refine dw (by rw [e1,ht.one]) (fun _ _=>?_) fun _ _=>dw (by rw [ht.one]) (fun _ _=>?_) fun _ _=>dw (by rw [e1,ht.one]) (fun _ _=>?_) fun _ _=>dw (by rw [e1,ht.one]) (fun _ _=>?_) fun _ _=>dw (by rw [hl.names,ht.one]) (fun _ _=>?_) fun _ _=>dw (by rw [e1]) (fun _ _=>?_) fun _ _=>jJ
  · exact iZ (ax (iD K dP S) fun y y' hy=>eL (B9 hl.head hy) fun z z' hz=>aL hz)
  · exact iZ (ax (iD K dP S) fun y y' hy=>ax (zo K dP S _ _ _ _ (by have:=K.le;omega) (xq hy)) fun r r' hr=>eL (B9 (iA hl) (iA hr)) (fun z z' hz=>aL hz) ht.2)
  · exact iZ (ax (iD K dP S) fun y y' hy=>eL (B9 (iA hl) (iA (xq hy))) (fun z z' hz=>aL hz) ht.2)
  · exact iZ (eL (xq hl.head) (fun z z' hz=>aL hz) ht.2)
  · refine IE (fun _=>Mo.bind inferInstance fun a=>YL a l p) (ov (h1 l l' hl) (fun a=>YL a l p) fun a a' ha=>?_)
    cases a with
    | none=>
      cases a' with
      | some u=>exact ha.elim
      | none=>exact ax (uH K dP S) fun r r' hr=>eL (B9 (iA hl) (iA hr)) fun z z' hz=>aL hz
    | some u=>
      cases a' with
      | none=>exact ha.elim
      | some u'=>exact aL ha
  · exact eL (xq hl.head) fun z z' hz=>aL hz
theorem u6 (K:SK ts aP d j) (hm:m<j) (S:SG ts aP d j G G'):SR d m lo EN (gg ts G) (gg aP G'):=by
  have:=S.mo;unfold gg;refine ax (u7 K hm S (W:=fun _ _=>False) fun l l' hl=>aL (by trivial)) fun y y' hy=>aL ?_;cases y with
  | inr u=>cases u
  | inl n=>
    cases y' with
    | inr u=>cases u
    | inl n'=>exact hy
theorem Jm (K:SK ts aP d j) (hm:m<j) (S:SG ts aP d j G G'):SR d m lo P2 (jX ts G) (jX aP G'):=by
  have:=S.mo;have dP:=Nat.le_of_lt hm;unfold jX;refine ax (u6 K hm S) fun n n' hn=>fi K hm fun t t' ht=>dw (by rw [ht.1]) (fun _ _=>?_) fun _ _=>dw (by rw [hn.inv.1]) (fun _ _=>?_) fun _ _=>jJ
  · exact iZ (ax (iD K dP S) fun c c' hc=>aL ⟨hn,hc⟩)
  · exact aL ⟨EN.refl _,hn.inv.2.2.head⟩
theorem Ct (K:SK ts aP d j) (hm:m<j) (S:SG ts aP d j G G'):SR d m lo EN (jr ts G) (jr aP G'):=by
  have:=S.mo;have dP:=Nat.le_of_lt hm;unfold jr;refine kI K dP fun t t' ht=>ax (kJ (Jm K hm S)) fun h h' hh=>ax (pn K dP S) fun b b' hb=>cz K dP ?_ (dv (Sn hh.1 hh.2 hb (EN.refl _)));refine fi K hm fun t t' ht=>kW ht.one ?_ (kW ht.one ?_ jJ)
  · exact ax (S.branch m hm).up0 fun o o' ho=>dv (Sn hh.1 hh.2 hb ho)
  · exact ax (pn K dP S) fun o o' ho=>dv (Sn hh.1 hh.2 hb ho)
theorem Br (K:SK ts aP d j) (hm:m<j) (S:SG ts aP d j G G') (hl:EL l l'):SR d m lo EL (gU ts G l) (gU aP G' l'):=by
  have:=S.mo;have dP:=Nat.le_of_lt hm;unfold gU;exact eJ K dP fun _ _ _=>ax (iD K dP S) fun y y' hy=>aL (Ny (hl.get 0) (hl.get 1) hy)
theorem Mg (K:SK ts aP d j) (hm:m<j) (S:SG ts aP d j G G') (hl:EL l l'):SR d m lo (OR EL) (mC ts G l) (mC aP G' l'):=by
  have:=S.mo;have dP:=Nat.le_of_lt hm;unfold mC;exact pM K dP fun q=>dw (by rw [hl.len]) (fun _ _=>ax (Br K hm S hl) fun r r' hr=>aL hr) fun _ _=>aL (by trivial)
theorem yh (K:SK ts aP d j) (hm:m<j) (S:SG ts aP d j G G') (hx:EN x x'):SR d m lo (SU P3 EL) (gG ts G x) (gG aP G' x'):=by
  have:=S.mo;have dP:=Nat.le_of_lt hm;unfold gG;refine o4 K dP (fi K hm fun t t' ht=>ax (dw (by rw [ht.1]) (fun _ _=>aL (EN.refl _)) fun _ _=>iD K dP S) fun c c' hc=>o4 K dP (pM K dP fun q=>?_));exact ax (qV (u6 K hm S)) fun y y' hy=>aL ⟨hx,hc,hy⟩
theorem G5 (K:SK ts aP d j) (hm:m<j) (S:SG ts aP d j G G'):SR d m lo (SU P3 EL) (il ts G) (il aP G'):=by
  have:=S.mo;have dP:=Nat.le_of_lt hm;unfold il;refine fi K hm fun t t' ht=>kW ht.one (aL ⟨EN.refl _,EN.refl _,EN.refl _⟩) (kW ht.one (ax (Br K hm S EL.nil) fun r r' hr=>aL hr) (dw (by rw [ht.1]) (fun _ _=>yh K hm S (EN.refl _)) fun _ _=>?_));refine ov (u7 K hm S (W:=EL) fun l l' hl=>Mg K hm S hl) (fun a=>?_) fun y y' hy=>?_
  · repeat' (first | refine Mo.bind inferInstance fun _=>?_ | refine @mo_ite _ _ _ _ _ ?_ ?_ | infer_instance | split)
  · cases y with
    | inr u=>
      cases y' with
      | inl n'=>exact hy.elim
      | inr u'=>exact aL hy
    | inl n=>
      cases y' with
      | inr u=>exact hy.elim
      | inl n'=>
        have hn:EN n n':=hy;exact fi K hm fun t t' ht=>dw (by rw [ht.1]) (fun _ _=>yh K hm S hn) fun _ _=>dw (by rw [hn.inv.1]) (fun _ _=>aL ⟨EN.refl _,hn.inv.2.2.head,EN.refl _⟩) fun _ _=>jJ
theorem OB (K:SK ts aP d j) (hm:m<j) (S:SG ts aP d j G G'):SR d m lo EN (pQ ts G fr) (pQ aP G' fr'):=by
  have:=S.mo;have dP:=Nat.le_of_lt hm;unfold pQ;refine ov (kJ (G5 K hm S)) (fun a=>?_) fun h h' hh=>ov (pn K dP S) (fun a=>?_) fun b b' hb=>?_
  · repeat' (first | refine Mo.bind inferInstance fun _=>?_ | refine @mo_ite _ _ _ _ _ ?_ ?_ | infer_instance | split)
  · repeat' (first | refine Mo.bind inferInstance fun _=>?_ | refine @mo_ite _ _ _ _ _ ?_ ?_ | infer_instance | split)
  · cases h with
    | inr u=>
      cases h' with
      | inl n'=>exact hh.elim
      | inr u'=>
        have hu:EL u u':=hh;exact dv (hu.snoc hb)
    | inl n=>
      cases h' with
      | inr u=>exact hh.elim
      | inl n'=>
        have hn:P3 n n':=hh;exact dv (Sn hn.1 hn.2.1 hn.2.2 hb)
theorem Ha (K:SK ts aP d j) (hm:m<j) (S:SG ts aP d j G G') {k:Int} {head tD:PM No} [Mo head] (h1:SR d m 0 EN head tD):SR d m lo EN (jo ts G k head) (jo aP G' k tD):=by
  have:=S.mo;have dP:=Nat.le_of_lt hm;unfold jo;refine i_ fun p p'=>lE K dP fun q=>ax (qV (eJ K dP fun _ _ _=>h1)) fun y y' hy=>eJ K dP fun c c' hc=>?_;refine ax (IM K hm (fun t t' ht=>?_) (S.stmt m hm) _ _ _ _ (by have:=K.le;omega) EL.nil) fun r r' hr=>aL (EN.mk (EL.cons hy hr) rfl);unfold lO;rw [ht.one]
theorem Co (K:SK ts aP d j) (hm:m<j) (S:SG ts aP d j G G') {k:Int} {head tD:PM No} [Mo head] (h1:SR d m 0 EN head tD):∀ (f f':Nat) (l l':List No),f≤f'→EL l l'→SR d m 0 EL (jn ts G k head f l) (jn aP G' k tD f' l')
  | 0,_,_,_,_,_=>eV
  | f+1,0,_,_,h,_=>by omega
  | f+1,f'+1,l,l',h,hl=>by
    have:=S.mo;have:=o_ (ts:=ts) (G:=G) (k:=k) (head:=head) f;unfold jn;exact ot K (Nat.le_of_lt hm) (aL hl) (ax (Ha K hm S h1) fun y y' hy=>Co K hm S h1 f f' _ _ (by omega) (hl.snoc hy))
theorem F0 (K:SK ts aP d j) (hm:m<j) (S:SG ts aP d j G G') {k:Int} {head tD:PM No} [Mo head] (h1:∀ m,m<j→SR d m 0 EN head tD):SR d m lo EL (jO ts G k head) (jO aP G' k tD):=by
  have:=S.mo;have dP:=Nat.le_of_lt hm;have:=o_ (ts:=ts) (G:=G) (k:=k) (head:=head) (ts.length+1);unfold jO;refine eJ K dP fun _ _ _=>?_;exact ii K dP (fun m' hq=>kJ (Co K (by omega) S (h1 m' (by omega)) _ _ _ _ (by have:=K.le;omega) EL.nil)) fun a a' _ _ ha=>aL ha
theorem Gs (K:SK ts aP d j) (hm:m<j) (S:SG ts aP d j G G'):SR d m lo EN (gq ts G) (gq aP G'):=by
  have:=S.mo;unfold gq;exact ax (uH K (Nat.le_of_lt hm) S) fun y y' hy=>aL (iA hy)
theorem J1 (K:SK ts aP d j) (hm:m<j) (S:SG ts aP d j G G'):SR d m lo EN (jZ ts G fr) (jZ aP G' fr'):=by
  have:=S.mo;unfold jZ;exact ax (kJ (iD K (Nat.le_of_lt hm) S)) fun y y' hy=>ax (F0 K hm S fun m hm=>Gs K hm S) fun r r' hr=>dv (EL.cons hy hr)
theorem Pn (K:SK ts aP d j) (hm:m<j) (S:SG ts aP d j G G'):SR d m lo EN (oL ts G) (oL aP G'):=by
  have:=S.mo;have dP:=Nat.le_of_lt hm;unfold oL;refine i_ fun p p'=>fi K hm fun t t' ht=>qW K dP fun t1 V8 OI=>dw (by rw [ht.1,OI.one]) (fun _ _=>?_) fun _ _=>?_
  · exact eK K dP fun n n' hn=>lE K dP fun q=>ax (sr (IF K dP)) fun y y' hy=>eJ K dP fun _ _ _=>eJ K dP fun _ _ _=>ax (yI K dP S) fun z z' hz=>dv (Ny hn hy hz)
  · refine ax (iD K dP S) fun y y' hy=>cz K dP (ax (iD K dP S) fun z z' hz=>dv (B9 hy hz)) (dw (by rw [hy.inv.1,hy.inv.2.1]) (fun _ _=>?_) fun _ _=>jJ)
    exact dv (Ny (EN.refl _) (EN.refl _) hy.inv.2.2.head)
theorem Mn (K:SK ts aP d j) (hm:m<j) (S:SG ts aP d j G G'):SR d m lo EN (mc ts G fr) (mc aP G' fr'):=by
  have:=S.mo;unfold mc;exact ax (F0 K hm S fun m hm=>Pn K hm S) fun r r' hr=>dv hr
theorem mu {y y':PM No} [Mo y] (h:SR d m lo EN y y'):SR d m lo VP (pw y) (pw y'):=by
  unfold pw;exact ax h fun n n' hn=>aL ⟨hn,rfl⟩
theorem Lv (K:SK ts aP d j) (hm:m<j) (S:SG ts aP d j G G'):SR d m lo VP (mP ts G fr) (mP aP G' fr'):=by
  have:=S.mo;have dP:=Nat.le_of_lt hm;unfold mP;refine cz K dP (mu (dv EL.nil)) (cz K dP (mu (dv EL.nil)) (ot K dP (mu (Ct K hm S)) ?_));refine cz K dP (mu (OB K hm S)) (cz K dP (mu (J1 K hm S)) ?_);exact cz K dP (mu (Mn K hm S)) (mu (u6 K hm S))
theorem Ou (K:SK ts aP d j) (hm:m<j) (S:SG ts aP d j G G'):SR d m lo VP (pL ts G) (pL aP G'):=by
  have:=S.mo;have dP:=Nat.le_of_lt hm;unfold pL;refine fi K hm fun t t' ht=>dw (by rw [ht.one,ht.1]) (fun _ _=>aL ⟨EN.refl _,rfl⟩) fun _ _=>kW ht.one (mu (uR K hm S)) (kW ht.one (mu (vX K hm S)) (kW ht.one (mu (pn K dP S)) ?_));refine cz K dP (mu (Cp K hm S)) (cz K dP (mu (Cp K hm S)) (cz K dP (fi K hm fun t1 V8 OI=>?_) (Lv K hm S)));exact ax (dw (by rw [OI.begins]) (fun _ _=>uH K dP S) fun _ _=>aL EL.nil) fun r r' hr=>mu (dv hr)
theorem Ra:SG ts aP d j K7 G':=⟨gm_gr (ts:=ts) (n:=0),fun _ _=>eV,fun _ _=>eV,fun _ _=>eV,fun _ _ _ _ _ _ _=>eV,fun _ _ _ _ _=>eV,fun _ _=>eV,fun _ _=>eV⟩
theorem Pb (K:SK ts aP d j):∀ n n',n≤n'→SG ts aP d j (gr ts n) (gr aP n')
  | 0,_,_=>Ra
  | n+1,0,h=>by omega
  | n+1,n'+1,h=>by
    have S:=Pb K n n' (by omega);exact ⟨gm_gr,fun m hm=>uT K hm S,fun m hm=>iD K hm S,fun m hm=>yI K hm S,fun m x x' r hm hr hx=>Cu K hm S hr hx,fun m x x' hm hx=>uW K hm S hx,fun m hm=>Ou K hm S,fun m hm=>Ct K hm S⟩
end
end Go.Proofs.YtfmgdmeopakdaaaGreatDoor
