/- Parts of one proof. -/
import Derived.Test.YtfmgdmeopakdaaaGreatDoorMP1
import Derived.RegionTactic
import Derived.OwnWalk
import Derived.WalkSpells
import Derived.Test.YtfmgdmeopakdaaaGreatDoorProg
import Derived.Deep.RegionLaw
import Derived.Deep.LoopGhost
import Derived.Deep.Cut
import Derived.LoopN
import Derived.Recover
import Derived.Deep.RegionHeld
import Derived.Lib.Strings
import Derived.Lib.Bytealg
import Derived.Lib.IndexMore
import Derived.Lib.IndexBytes
import Derived.Lib.Hide
import Derived.Deep.DeepCutAuto
set_option linter.unusedVariables false
set_option linter.unusedSimpArgs false
namespace Go.Proofs.YtfmgdmeopakdaaaGreatDoor
open Go Go.RowKit Tryz
theorem aG (w:World) (o:Obj):Below w.heap.size w (w.alloc o):=(Below.refl _ _).alloc (Nat.le_refl _) o
structure ay (X:Nat→Prop) (w w':World):Prop where
  os:w'.os=w.os
  tape:w'.tape=w.tape
  output:w'.output=w.output
  size:w.heap.size≤w'.heap.size
  block:∀ b,b<w.heap.size→¬ X b→w'.heap[b]? = w.heap[b]?
theorem ay.refl (X:Nat→Prop) (w:World):ay X w w:=⟨rfl,rfl,rfl,Nat.le_refl _,fun _ _ _=>rfl⟩
theorem ay.of_below {X:Nat→Prop} {w w':World} (h:Below w.heap.size w w'):ay X w w':=⟨h.os,h.tape,h.output,h.size,fun b hb _=>h.block b hb⟩
theorem ay.of_grown {X:Nat→Prop} {row:Option Nat} {w w':World} (h:w.grownBy w' row) (hr:∀ b,row=some b→X b):ay X w w':=
  ⟨h.os,h.tape,h.output,h.size,fun b hb hn=>h.block b hb (fun e=>hn (hr b e.symm))⟩
theorem ay.trans {X Y:Nat→Prop} {a b c:World} (h:ay X a b) (k:ay Y b c) (hY:∀ i,i<a.heap.size→Y i→X i):ay X a c:=
  ⟨k.os.trans h.os,k.tape.trans h.tape,k.output.trans h.output,Nat.le_trans h.size k.size,fun i hi hn=>
    (k.block i (Nat.lt_of_lt_of_le hi h.size) (fun e=>hn (hY i hi e))).trans (h.block i hi hn)⟩
theorem ay.mono {X Y:Nat→Prop} {a b:World} (h:ay X a b) (hY:∀ i,i<a.heap.size→X i→Y i):ay Y a b:=
  ⟨h.os,h.tape,h.output,h.size,fun i hi hn=>h.block i hi (fun e=>hn (hY i hi e))⟩
theorem ay.below {X:Nat→Prop} {B:Nat} {a b:World} (h:ay X a b) (hX:∀ i,i<a.heap.size→X i→B≤i) (hB:B≤a.heap.size):Below B a b:=
  ⟨h.os,h.tape,h.output,h.size,fun i hi=>h.block i (by omega) (fun e=>by have:=hX i (by omega) e;omega)⟩
theorem ay.sameOn {X:Nat→Prop} {S:Nat→Prop} {a b:World} (h:ay X a b) (hS:∀ i,S i→i<a.heap.size∧¬ X i):aI S a b:=fun i hi=>h.block i (hS i hi).1 (hS i hi).2
theorem ay.set_ {X:Nat→Prop} {a b:World} (h:ay X a b) {p:Addr} (hp:a.heap.size≤p.block∨X p.block) (u:Value):ay X a (b.setCell p u):=
  h.trans (Y:=fun i=>i=p.block) ⟨rfl,rfl,rfl,by simp,fun i _ hn=>Below.heap_setCell b p u i hn⟩ (fun i hi e=>by subst e;rcases hp with h | h;omega;exact h)
theorem ay.alloc {X:Nat→Prop} {a b:World} (h:ay X a b) (o:Obj):ay X a (b.alloc o):=h.trans (Y:=fun _=>False) (ay.of_below (aG b o)) (fun _ _ h=>h.elim)
theorem ay.drew {X:Nat→Prop} {a b:World} (h:ay X a b):ay X a b.drew:=⟨h.os,h.tape,h.output,h.size,h.block⟩
theorem ay.then_ {X:Nat→Prop} {a b c:World} (h:ay X a b) (k:Below b.heap.size b c):ay X a c:=h.trans (Y:=fun _=>False) (ay.of_below k) (fun _ _ h=>h.elim)
theorem bk {w w':World} {base:Nat} {e:TypeId} {size n:Nat} {v:Value} {xs:List Value} (h:w.ownsRow base e size v n xs) (hs:∀ b,v.ownBlock=some b→w'.heap[b]? = w.heap[b]?):w'.ownsRow base e size v n xs:=by
  refine ⟨h.1,?_⟩;rcases h.2 with hn | ⟨g,cap,cur,rfl,hb,O1,rest⟩
  · exact .inl hn
  · exact .inr ⟨g,cap,cur,rfl,hb,(hs g rfl).trans O1,rest⟩
theorem cD {w:World} {B:Nat} {e t:TypeId} {s n:Nat} {v:Value} {x:List Value} {g:Nat} {cs:Array Value} (h:w.ownsRow B e s v n x) (hb:aj w g t cs) (he:e≠t):v.ownBlock≠some g:=by
  intro cB;rcases h.2 with ⟨rfl,_⟩ | ⟨g,cap,cur,rfl,_,hg,_⟩
  · cases cB
  cases cB;unfold aj at hb;rw [hg] at hb;simp only [Option.some.injEq,Obj.cells.injEq] at hb;exact he hb.2.1
theorem aj.row {w:World} {S:Nat→Prop} {g size n:Nat} {t:TypeId} {cs:Array Value} (h:aj w g t cs) (hs:cs.size=n * size) (hn:n≤maxLen) (hS:S g):Row w S size (.slice (some ⟨g,0,none⟩) n n) n cs.toList:=by
  refine ⟨by simpa using hs,_,_,rfl,Nat.le_refl _,hn,fun e=>by simp at e,fun _=>⟨g,0,rfl,hS,fun j u hj=>?_⟩⟩;rw [Nat.zero_add,h.cell j]
  simpa using hj
theorem aj.new' {w:World} {n:Nat} {t:TypeId} {cs:Array Value} (h:n=w.heap.size):aj (w.alloc (.cells cs t)) n t cs:=by subst h;exact aj.new w t cs
theorem fO {w:World} {g n size base:Nat} {t:TypeId} {cs:Array Value} (h:aj w g t cs) (hb:base≤g) (hs:cs.size=n * size) (hm:n≤maxLen):w.ownsRow base t size (.slice (some ⟨g,0,none⟩) n n) n cs.toList:=by
  exact ⟨by simpa using hs,.inr ⟨g,n,cs,rfl,hb,h,Nat.le_refl _,hm,hs,List.take_of_length_le (by rw [Array.length_toList,hs];exact Nat.le_refl _)⟩⟩
theorem zb {S : Nat → Prop} {w : World} : ay S w w := ay.refl _ _
section
variable {P:Program} (w:World)
theorem q9 (base:Nat) (t ty e:TypeId) (i:TypeInfo) (size:Nat) (ht:P.underlying t=some (.slice e)) (hi:P.info? e=some i)
    (v:Value) (n:Nat) (xs:List Value) (aD:w.ownsRow base e size v n xs) (c:Nat):(Builtin.append_ #[t,t] ty #[v,.slice none 0 c]).run P w = .ok v w:=by
  rcases aD.2 with ⟨rfl,rfl⟩ | ⟨g,cap,cur,rfl,_,_,Rr,_⟩
  · simp [Builtin.append_,run_underlying ht,sizeOf,typeInfo,hi,Builtin.lenOf,Builtin.firstCells]
  · simp [Builtin.append_,run_underlying ht,sizeOf,typeInfo,hi,Builtin.lenOf,Builtin.firstCells,Rr,storeCells]
theorem vc (base:Nat) (t ty e:TypeId) (i:TypeInfo) (z:Value) (size bytes:Nat) (ht:P.underlying t=some (.slice e)) (hi:P.info? e=some i) (hz:i.zero=some z)
    (vy:i.size=size) (O8:i.bytes=bytes) (OC:z.cells.size=size) (je:0<size)
    (v:Value) (n:Nat) (xs:List Value) (aD:w.ownsRow base e size v n xs)
    (S:Nat→Prop) (x:Value) (m:Nat) (news:List Value) (hr:Row w S size x m news) (h1:∀ u ∈ news,u.oneCell'=true)
    (C9:n+m≤maxLen) (qq:(n+m) * bytes≤140737488355328) (pU:base≤w.heap.size) :
    ∃ v' w',(Builtin.append_ #[t,t] ty #[v,x]).run P w = .ok v' w'∧w'.ownsRow base e size v' (n+m) (xs ++ news)∧w.grownBy w' v.ownBlock∧
      (v' = .slice none 0 0↔v = .slice none 0 0∧m=0)∧(v'.ownBlock=v.ownBlock∨v'.ownBlock=some w.heap.size):=by
  obtain ⟨hl,A,c,rfl,hmc,R0,h0,hc⟩:=hr;rcases A with _ | ad
  · have JE:=h0 rfl
    subst JE;(obtain rfl:m=0:=by omega);have hn:news=[]:=List.eq_nil_of_length_eq_zero (by simpa using hl);subst hn;exact ⟨v,w,q9 w base t ty e i size ht hi v n xs aD 0,by simpa using aD,World.grownBy.refl w _,by simp,.inl rfl⟩
  · have O6:∀ j u,news[j]? = some u→w.cell? (ad.add j)=some u:=by
      intro j u hu;rcases Nat.eq_zero_or_pos m with h0 | h0
      · subst h0
        have hn:news=[]:=List.eq_nil_of_length_eq_zero (by simpa using hl);subst hn;simp at hu
      · obtain ⟨b,o,h,_,hk⟩:=hc h0
        injection h with h
        subst h;have:=hk j u hu;unfold Addr.add;split
        · rename_i hj;subst hj;exact this
        · exact this
    exact run_append_own_at (P:=P) w base t ty e i z size bytes ht hi hz vy O8 OC je v n xs aD ad m c news hl O6 h1 C9 qq pU
theorem pI {o:Oper} {a:Act} {K:Act→World→Prop} {Q:Exit→Act→World→Prop} (s x:Operand) (t:TypeId)
    (ho:o.op = .call { callee:=.builtin .append,args:=#[s,x],argTypes:=#[t,t] })
    (base:Nat) (e:TypeId) (i:TypeInfo) (z:Value) (size bytes:Nat) (ht:P.underlying t=some (.slice e)) (hi:P.info? e=some i) (hz:i.zero=some z)
    (vy:i.size=size) (O8:i.bytes=bytes) (OC:z.cells.size=size) (je:0<size)
    (v:Value) (n:Nat) (xs:List Value) (hs:a.eval s=v) (aD:w.ownsRow base e size v n xs)
    (S:Nat→Prop) (vx:Value) (m:Nat) (news:List Value) (hx:a.eval x=vx) (hr:Row w S size vx m news) (h1:∀ u ∈ news,u.oneCell'=true)
    (C9:n+m≤maxLen) (qq:(n+m) * bytes≤140737488355328) (pU:base≤w.heap.size)
    (h:∀ v' w',w'.ownsRow base e size v' (n+m) (xs ++ news)→w.grownBy w' v.ownBlock→(v' = .slice none 0 0↔v = .slice none 0 0∧m=0)→(v'.ownBlock=v.ownBlock∨v'.ownBlock=some w.heap.size)→K (a.put o.dst v') w'):o.wp P a w K Q:=by
  obtain ⟨v',w',ON,h2,h3,h4,h5⟩:=vc (P:=P) w base t o.type e i z size bytes ht hi hz vy O8 OC je v n xs aD S vx m news hr h1 C9 qq pU;unfold Oper.wp execOp;simp only [ho,resolve,invoke,builtin,Sem.run_bind,Sem.run_pure,Result.andThen_ok,List.map_toArray,List.map_cons,List.map_nil,hs,hx,ON];exact h v' w' h2 h3 h4 h5
theorem au {ops:Array Oper} {rest:List Oper} {o:Oper} {a:Act} {Q:Exit→Act→World→Prop} (RR:o.guard=none) (s x:Operand) (t:TypeId)
    (ho:o.op = .call { callee:=.builtin .append,args:=#[s,x],argTypes:=#[t,t] })
    (base:Nat) (e:TypeId) (i:TypeInfo) (z:Value) (size bytes:Nat) (ht:P.underlying t=some (.slice e)) (hi:P.info? e=some i) (hz:i.zero=some z)
    (vy:i.size=size) (O8:i.bytes=bytes) (OC:z.cells.size=size) (je:0<size)
    (v:Value) (n:Nat) (xs:List Value) (hs:a.eval s=v) (aD:w.ownsRow base e size v n xs)
    (S:Nat→Prop) (vx:Value) (m:Nat) (news:List Value) (hx:a.eval x=vx) (hr:Row w S size vx m news) (h1:∀ u ∈ news,u.oneCell'=true)
    (C9:n+m≤maxLen) (qq:(n+m) * bytes≤140737488355328) (pU:base≤w.heap.size)
    (h:∀ v' w',w'.ownsRow base e size v' (n+m) (xs ++ news)→w.grownBy w' v.ownBlock→(v' = .slice none 0 0↔v = .slice none 0 0∧m=0)→(v'.ownBlock=v.ownBlock∨v'.ownBlock=some w.heap.size)→wpList P ops Q rest (a.put o.dst v') w') :
    wpList P ops Q (o :: rest) a w:=
  wpList_plain RR fun _ hK=>pI w s x t ho base e i z size bytes ht hi hz vy O8 OC je v n xs hs aD S vx m news hx hr h1 C9 qq pU fun v' w' h2 h3 h4 h5=>hK _ _ (h v' w' h2 h3 h4 h5)
theorem bE {ops:Array Oper} {o:Oper} {a:Act} {K:Act→World→Prop} {Q:Exit→Act→World→Prop} {E:Prop} (RR:o.guard=none) (s x:Operand) (t:TypeId)
    (ho:o.op = .call { callee:=.builtin .append,args:=#[s,x],argTypes:=#[t,t] })
    (base:Nat) (e:TypeId) (i:TypeInfo) (z:Value) (size bytes:Nat) (ht:P.underlying t=some (.slice e)) (hi:P.info? e=some i) (hz:i.zero=some z)
    (vy:i.size=size) (O8:i.bytes=bytes) (OC:z.cells.size=size) (je:0<size)
    (v:Value) (n:Nat) (xs:List Value) (hs:a.eval s=v) (aD:w.ownsRow base e size v n xs)
    (S:Nat→Prop) (vx:Value) (m:Nat) (news:List Value) (hx:a.eval x=vx) (hr:Row w S size vx m news) (h1:∀ u ∈ news,u.oneCell'=true)
    (C9:n+m≤maxLen) (qq:(n+m) * bytes≤140737488355328) (pU:base≤w.heap.size)
    (h:∀ v' w',w'.ownsRow base e size v' (n+m) (xs ++ news)→w.grownBy w' v.ownBlock→(v' = .slice none 0 0↔v = .slice none 0 0∧m=0)→(v'.ownBlock=v.ownBlock∨v'.ownBlock=some w.heap.size)→K (a.put o.dst v') w') :
    if Region.wanted o (yielded ops a.tmps)=true then Oper.wp P o a w K Q else E:=by
  (have hw:Region.wanted o (yielded ops a.tmps)=true:=by simp [Region.wanted,RR]);rw [if_pos hw];exact pI w s x t ho base e i z size bytes ht hi hz vy O8 OC je v n xs hs aD S vx m news hx hr h1 C9 qq pU h
end
def OwnRes (w:World) (e:TypeId) (size n:Nat) (xs:List Value) (nil:Prop) (en:Ending) (w':World):Prop:=
  ∃ v',en = .returned v'∧w'.ownsRow w.heap.size e size v' n xs∧(v' = .slice none 0 0↔nil)∧Below w.heap.size w w'
structure Env where
  g:Nat
  a:Nat
  o:Nat
  cap:Nat
  ts:List Tk
def Env.tok (E:Env) (i:Nat):Tk:=ap E.ts i
structure PS (E:Env) (w:World) (i:Nat) (b:Bool):Prop where
  blk:aj w E.g 66 #[(.slice (some ⟨E.a,E.o,none⟩) E.ts.length E.cap),.int .i64 i,.bool b]
  tok:∀ j,j<E.ts.length→w.cell? ⟨E.a,E.o+j * 4,none⟩=some (.int .i64 (E.tok j).k)∧w.cell? ⟨E.a,E.o+j * 4+1,none⟩=some (.int .i64 (E.tok j).fr)∧
    w.cell? ⟨E.a,E.o+j * 4+2,none⟩=some (.int .i64 (E.tok j).to)∧w.cell? ⟨E.a,E.o+j * 4+3,none⟩=some (.string (E.tok j).tx)
  ne:E.a≠E.g
  lt:E.a<w.heap.size
  ilt:i<E.ts.length
structure eH (E:Env):Prop where
  wt:WT E.ts
  len:E.ts.length≤1000000
  cap:E.ts.length≤E.cap
section
variable {E:Env} {w w':World} {i j:Nat} {b c:Bool}
theorem PS.glt (h:PS E w i b):E.g<w.heap.size:=h.blk.lt
theorem PS.but (h:PS E w i b) (hb:ay (fun k=>k=E.g) w w') (hg:aj w' E.g 66 #[(.slice (some ⟨E.a,E.o,none⟩) E.ts.length E.cap),.int .i64 j,.bool c]) (hj:j<E.ts.length):PS E w' j c:=
  ⟨hg,fun k hk=>by
    have e:w'.heap[E.a]? = w.heap[E.a]?:=hb.block E.a h.lt h.ne;obtain ⟨h1,h2,h3,h4⟩:=h.tok k hk
    exact ⟨(World.cell?_of_block (a:=⟨E.a,_,none⟩) e).trans h1,(World.cell?_of_block (a:=⟨E.a,_,none⟩) e).trans h2,(World.cell?_of_block (a:=⟨E.a,_,none⟩) e).trans h3,(World.cell?_of_block (a:=⟨E.a,_,none⟩) e).trans h4⟩,
   h.ne,Nat.lt_of_lt_of_le h.lt hb.size,hj⟩
theorem PS.below (h:PS E w i b) (hb:Below w.heap.size w w'):PS E w' i b:=h.but (ay.of_below hb) (h.blk.below hb h.glt) h.ilt
theorem PS.set1 (h:PS E w i b) (hj:j<E.ts.length):PS E (w.setCell ⟨E.g,1,none⟩ (.int .i64 j)) j b:=
  h.but ((ay.refl (fun k=>k=E.g) w).set_ (p:=⟨E.g,1,none⟩) (.inr rfl) _) (by simpa using h.blk.set_ 1 (.int .i64 j)) hj
theorem PS.set2 (h:PS E w i b) (c:Bool):PS E (w.setCell ⟨E.g,2,none⟩ (.bool c)) i c:=
  h.but ((ay.refl (fun k=>k=E.g) w).set_ (p:=⟨E.g,2,none⟩) (.inr rfl) _) (by simpa using h.blk.set_ 2 (.bool c)) h.ilt
end
def cu (t:Tk):Value:=.agg #[.int .i64 t.k,.int .i64 t.fr,.int .i64 t.to,.string t.tx]
/-! ### nodes -/
mutual
def bG (w:World) (S:Nat→Prop):No→List Value→Prop
  | .mk k fr Fq tx ks,cs=>∃ vk xs,cs=[.int .i64 k,.int .i64 fr,.int .i64 Fq,.string tx,vk]∧Row w S 5 vk ks.length xs∧aC w S ks xs
def aC (w:World) (S:Nat→Prop):List No→List Value→Prop
  | [],cs=>cs=[]
  | t :: ts,cs=>∃ c1 c2,cs=c1 ++ c2∧bG w S t c1∧aC w S ts c2
end
def aQ (w:World) (S:Nat→Prop) (v:Value) (ks:List No):Prop:=∃ xs,Row w S 5 v ks.length xs∧aC w S ks xs
mutual
theorem bG.keep {w w':World} {S S':Nat→Prop} (hs:aI S w w') (h1:∀ b,S b→S' b):∀ {n:No} {cs:List Value},bG w S n cs→bG w' S' n cs
  | .mk k fr Fq tx ks,cs,h=>by
    simp only [bG] at h ⊢;obtain ⟨vk,xs,rfl,a,b⟩:=h;exact ⟨vk,xs,rfl,(a.keep hs).more h1,aC.keep hs h1 b⟩
theorem aC.keep {w w':World} {S S':Nat→Prop} (hs:aI S w w') (h1:∀ b,S b→S' b):∀ {ns:List No} {cs:List Value},aC w S ns cs→aC w' S' ns cs
  | [],cs,h=>by simp only [aC] at h ⊢;exact h
  | t :: ts,cs,h=>by
    simp only [aC] at h ⊢;obtain ⟨c1,c2,e,a,b⟩:=h;exact ⟨c1,c2,e,bG.keep hs h1 a,aC.keep hs h1 b⟩
end
section
variable {w w':World} {S S':Nat→Prop}
theorem aQ.keep {v:Value} {ks:List No} (h:aQ w S v ks) (hs:aI S w w') (h1:∀ b,S b→S' b):aQ w' S' v ks:=by
  obtain ⟨xs,a,b⟩:=h;exact ⟨xs,(a.keep hs).more h1,b.keep hs h1⟩
theorem bG.len:∀ {n:No} {cs:List Value},bG w S n cs→cs.length=5
  | .mk ..,cs,h=>by simp only [bG] at h;obtain ⟨_,_,rfl,_⟩:=h;rfl
theorem aC.len:∀ {ns:List No} {cs:List Value},aC w S ns cs→cs.length=ns.length * 5
  | [],cs,h=>by simp only [aC] at h;subst h;rfl
  | t :: ts,cs,h=>by
    simp only [aC] at h;obtain ⟨c1,c2,rfl,a,b⟩:=h;rw [List.length_append,a.len,b.len,List.length_cons];omega
theorem aC.append:∀ {ts us:List No} {cs ds:List Value},aC w S ts cs→aC w S us ds→aC w S (ts ++ us) (cs ++ ds)
  | [],us,cs,ds,h,h'=>by simp only [aC] at h;subst h;simpa using h'
  | t :: ts,us,cs,ds,h,h'=>by
    simp only [aC,List.cons_append] at h ⊢;obtain ⟨c1,c2,rfl,a,b⟩:=h;exact ⟨c1,c2 ++ ds,by simp,a,b.append h'⟩
theorem aC.one {t:No} {cs:List Value} (h:bG w S t cs):aC w S [t] cs:=by
  simp only [aC];exact ⟨cs,[],by simp,h,rfl⟩
theorem aC.nil_:aC w S [] []:=by simp [aC]
theorem aC.cons_ {t:No} {ts:List No} {cs ds:List Value} (h:bG w S t cs) (h':aC w S ts ds):aC w S (t :: ts) (cs ++ ds):=by
  simp only [aC];exact ⟨cs,ds,rfl,h,h'⟩
theorem aC.at_:∀ {ts:List No} {cs:List Value} (_:aC w S ts cs) (i:Nat) (h:i<ts.length),bG w S ts[i] ((cs.drop (i * 5)).take 5)
  | t :: ts,cs,h,0,_=>by
    simp only [aC] at h;obtain ⟨c1,c2,rfl,a,b⟩:=h
    simpa [List.take_append_of_le_length,a.len,List.take_of_length_le] using a
  | t :: ts,cs,h,i+1,hi=>by
    simp only [aC] at h;obtain ⟨c1,c2,rfl,a,b⟩:=h;have:=b.at_ i (by simpa using hi)
    have e:(c1 ++ c2).drop ((i+1) * 5)=c2.drop (i * 5):=by
      rw [List.drop_append,List.drop_eq_nil_of_le (by rw [a.len];omega),a.len,List.nil_append];congr 1;omega
    rw [e]
    simpa using this
theorem bG.forms {n:No} {cs:List Value} (h:bG w S n cs):∃ A c,cs=[.int .i64 n.k,.int .i64 n.fr,.int .i64 n.to,.string n.tx,.slice A n.ks.length c]∧aQ w S (.slice A n.ks.length c) n.ks:=by
  obtain ⟨k,fr,Fq,tx,ks⟩:=n;simp only [bG] at h;obtain ⟨vk,xs,rfl,a,b⟩:=h;obtain ⟨A,c,rfl,_⟩:=a.form;exact ⟨A,c,rfl,xs,a,b⟩
theorem bG.mk_ {n:No} {v:Value} (h:aQ w S v n.ks):bG w S n [.int .i64 n.k,.int .i64 n.fr,.int .i64 n.to,.string n.tx,v]:=by
  obtain ⟨k,fr,Fq,tx,ks⟩:=n;obtain ⟨xs,a,b⟩:=h;simp only [bG];exact ⟨v,xs,rfl,a,b⟩
theorem aQ.form {v:Value} {ks:List No} (h:aQ w S v ks):∃ A c,v = .slice A ks.length c:=by
  obtain ⟨xs,a,_⟩:=h;obtain ⟨A,c,rfl,_⟩:=a.form;exact ⟨A,c,rfl⟩
theorem aQ.nil_:aQ w S (.slice none 0 0) []:=⟨[],Row.nil_,aC.nil_⟩
end
def noV (n:No) (v:Value):Value:=.agg #[.int .i64 n.k,.int .i64 n.fr,.int .i64 n.to,.string n.tx,v]
def EH (p:Int):Value:=.iface 63 (.agg #[.int .i64 4,.string ⟨#[]⟩,.int .i64 p])
set_option maxRecDepth 100000
set_option maxHeartbeats 1000000
def Cv (p:Int):List PanicEntry:=[{ v:=EH p,recovered:=false }]
theorem aO (c0 c1 c2 c3:Value) (w:World):(Instr.field 36 (.agg #[c0,c1,c2,c3]) 0).run prog w = .ok c0 w:=by kernel_rfl
theorem aU (c0 c1 c2 c3:Value) (w:World):(Instr.field 36 (.agg #[c0,c1,c2,c3]) 1).run prog w = .ok c1 w:=by kernel_rfl
theorem aT (c0 c1 c2 c3:Value) (w:World):(Instr.field 36 (.agg #[c0,c1,c2,c3]) 2).run prog w = .ok c2 w:=by kernel_rfl
theorem aS (c0 c1 c2 c3:Value) (w:World):(Instr.field 36 (.agg #[c0,c1,c2,c3]) 3).run prog w = .ok c3 w:=by kernel_rfl
theorem Oy (v:Value) (w:World):(Instr.panic (.iface 63 v)).run prog w = .halt (.panic (.iface 63 v)) w:=by kernel_rfl
section
variable {E:Env} {w:World} {i:Nat} {b:Bool} {l:List ByteArray} {v:Value} {S:Nat→Prop}
theorem bT (hE:eH E) (h:PS E w i b):Calls prog 35 #[(.pointer (some ⟨E.g,0,none⟩))] w fun e w'=>e = .returned (cu (E.tok i))∧Below w.heap.size w w':=by
  obtain ⟨t0,t1,t2,t3⟩:=h.tok i h.ilt;have q0:=h.blk.cell 0;have q1:=h.blk.cell 1;have q2:=h.blk.cell 2;have qf:=h.blk.frozen 1;have sE:=h.glt;have QC:=h.lt;have eY:=h.ilt;have iS:=hE.len;have gQ:=h.ne;simp at q0 q1 q2;clear h hE q2 qf;have iM:=aO;have iT:=aU;have jf:=aT;have iL:=aS;go_enter func35,ntmps35;go_wp2_with fail
  go_region
  all_goals
    go_wp2_with fail;exact bodyPost_ret (v:=cu (E.tok i)) (by simp [results,results35,go_sem,cu]) rfl ⟨rfl,(aG _ _).drew⟩
theorem cI (hE:eH E) (h:PS E w i b):Calls prog 36 #[(.pointer (some ⟨E.g,0,none⟩))] w fun e w'=>e = .panicked (Cv (E.tok i).fr)∧Below w.heap.size w w':=by
  have YF:=Oy;have HP:=zh h;have HE:=zh hE;clear h hE;have iM:=aO;have iT:=aU;have jf:=aT;have iL:=aS;go_enter func36,ntmps36;go_wp2_with fail;refine (bT HE.o HP.o).mono ?_;rintro e w' ⟨rfl,hb⟩;simp only [cu];have HB:=zh hb;clear hb;go_wp2_with fail;exact ⟨rfl,rfl,HB.o⟩
theorem gD (hE:eH E) (h:PS E w i b):Calls prog 74 #[(.pointer (some ⟨E.g,0,none⟩))] w fun e w'=>e = .returned (.bool (decide ((E.tok i).k=1)))∧Below w.heap.size w w':=by
  have HP:=zh h;have HE:=zh hE;clear h hE;have iM:=aO;have iT:=aU;have jf:=aT;have iL:=aS;go_enter func74,ntmps74;go_wp2_with fail;refine (bT HE.o HP.o).mono ?_;rintro e w' ⟨rfl,hb⟩;simp only [cu];have HB:=zh hb;clear hb;go_wp2_with fail;go_ret;exact ⟨rfl,HB.o⟩
theorem cY (hE:eH E) (h:PS E w i b):Calls prog 94 #[(.pointer (some ⟨E.g,0,none⟩))] w fun e w'=>e = .returned (.int .i64 (E.tok i).fr)∧Below w.heap.size w w':=by
  have HP:=zh h;have HE:=zh hE;clear h hE;have iM:=aO;have iT:=aU;have jf:=aT;have iL:=aS;go_enter func94,ntmps94;go_wp2_with fail;refine (bT HE.o HP.o).mono ?_;rintro e w' ⟨rfl,hb⟩;simp only [cu];have HB:=zh hb;clear hb;go_wp2_with fail;go_ret;exact ⟨rfl,HB.o⟩
/-! ### signs and words -/
theorem ip (a b:ByteArray):(a.toList == b.toList)=decide (a=b):=by
  rw [Bool.eq_iff_iff];simp only [beq_iff_eq,decide_eq_true_eq];refine ⟨fun h=>?_,fun h=>by rw [h]⟩;rw [ByteArray.toList_eq,ByteArray.toList_eq] at h;cases a;cases b;simp only [ByteArray.mk.injEq];exact Array.toList_inj.1 h
theorem Lu {k:Nat} (hr:Row w S 1 v l.length (l.map .string)) (hk:k<l.length):∃ g o cap,v = .slice (some ⟨g,o,none⟩) l.length cap∧S g∧w.cell? ⟨g,o+k,none⟩=some (.string l[k]):=by
  obtain ⟨h1,A,cap,LW,h2,h3,h0,h4⟩:=hr;obtain ⟨g,o,rfl,R',GZ⟩:=h4 (by omega);exact ⟨g,o,cap,LW,R',GZ k _ (by rw [List.getElem?_map,List.getElem?_eq_getElem hk];rfl)⟩
theorem mQ {t:Tk} (hr:Row w S 1 v l.length (l.map .string)) (hS:Hg S w) :
    Calls prog 75 #[cu t,v] w fun e w'=>e = .returned (.bool (oneOf t l))∧Below w.heap.size w w':=by
  obtain ⟨A1,c1,rfl,eN⟩:=hr.form;obtain ⟨tk,tf,tt,tx⟩:=t;have HR:=zh hr;have HS:=zh hS;clear hr hS;simp only [cu];have iM:=aO;have iT:=aU;have jf:=aT;have iL:=aS;go_enter func75,ntmps75;by_cases hk:tk=5∨tk=4
  case neg=>
    have hq:oneOf ⟨tk,tf,tt,tx⟩ l=false:=by
      simp only [oneOf,Bool.and_eq_false_iff,Bool.or_eq_false_iff,decide_eq_false_iff_not];exact .inl ⟨fun e=>hk (.inl e),fun e=>hk (.inr e)⟩
    (have h5:(tk != 5)=true:=by simpa using fun e=>hk (.inl e));(have h4:(tk != 4)=true:=by simpa using fun e=>hk (.inr e));have HQ:=zh hq;clear hk hq;go_wp2_with fail;go_ret;exact ⟨by rw [HQ.o];rfl,aG _ _⟩
  case pos=>
    have HQ:Hd (oneOf ⟨tk,tf,tt,tx⟩ l=iJ ⟨tk,tf,tt,tx⟩ l):=by
      (have:(decide (tk=5) || decide (tk=4))=true:=by simpa using hk);unfold oneOf;rw [this,Bool.true_and];exact zh rfl
    rcases hk with rfl | rfl
    all_goals
      go_wp2_with fail
      go_loopg [17] l.length (fun m s17 wr=>∃ j:Nat,m=l.length - j∧j≤l.length∧s17 = .int .i64 j∧wr=w.alloc (.cells #[.int .i64 _,.int .i64 tf,.int .i64 tt,.string tx] 36)∧Hd ((l.take j).any (fun x=>decide (tx=x))=false))
      case atStart=>exact ⟨0,by simp,by omega,rfl,rfl,by simp [Hd]⟩
      case round=>
        obtain ⟨j,rfl,hj,rfl,rfl,HT⟩:=hrel;by_cases fs:j<l.length
        · obtain ⟨g,o,cp,hv,FQ,hc⟩:=Lu HR.o fs
          cases hv;have sE:=HS.o g FQ;(have hj3:(j:Int)<(l.length:Int):=by omega);obtain ⟨x,hx⟩:∃ x,l[j]=x:=⟨_,rfl⟩;rw [hx] at hc;clear FQ;by_cases he:tx=x
          · have hbe:(tx.toList == x.toList)=true:=by rw [ip];simpa using he
            have HY:Hd (iJ ⟨0,tf,tt,tx⟩ l=true):=by
              unfold iJ;exact zh (List.any_eq_true.2 ⟨x,hx ▸ List.getElem_mem fs,by simpa using he⟩)
            clear he hx;go_wp2_with fail;go_ret;exact ⟨by rw [HQ.o.trans HY.o];rfl,aG _ _⟩
          · have hbe:(tx.toList == x.toList)=false:=by rw [ip];simpa using he
            have HN:Hd ((l.take (j+1)).any (fun x=>decide (tx=x))=false):=by
              rw [List.take_succ_eq_append_getElem fs,List.any_append,HT.o,hx];exact zh (by simpa using he)
            clear he hx;go_wp2_with fail
            go_roundg (l.length - (j+1))
            case measure=>omega
            case rel=>exact ⟨j+1,rfl,by omega,by go_num,rfl,HN⟩
        · obtain rfl:j=l.length:=by omega
          have HY:Hd (iJ ⟨0,tf,tt,tx⟩ l=false):=by
            have:=HT.o;rw [List.take_of_length_le (Nat.le_refl _)] at this;exact zh this
          clear fs hj;go_wp2_with fail;go_ret;exact ⟨by rw [HQ.o.trans HY.o];rfl,aG _ _⟩
theorem bm (hE:eH E) (h:PS E w i b) (hr:Row w S 1 v l.length (l.map .string)) (hS:Hg S w) :
    Calls prog 60 #[(.pointer (some ⟨E.g,0,none⟩)),v] w fun e w'=>e = .returned (.bool (oneOf (E.tok i) l))∧Below w.heap.size w w':=by
  obtain ⟨A1,c1,rfl,eN⟩:=hr.form;have HP:=zh h;have HE:=zh hE;clear h hE;have HR:=zh hr;have HS:=zh hS;clear hr hS;have iM:=aO;have iT:=aU;have jf:=aT;have iL:=aS;go_enter func60,ntmps60;go_wp2_with fail;refine (bT HE.o HP.o).mono ?_;rintro e w1 ⟨rfl,cB⟩;have a7:=zh cB;clear cB;go_wp2_with fail;refine (mQ (l:=l) (S:=S) (HR.o.keep (aI.of_below a7.o HS.o)) (HS.o.below a7.o)).mono ?_;rintro e w2 ⟨rfl,cK⟩;have aE:Hd (Below w.heap.size w w2):=a7.o.trans (cK.mono a7.o.size);clear cK;go_wp2_with fail;go_ret;exact ⟨rfl,aE.o⟩
theorem aW {w:World} {n:Nat} (l:List ByteArray) (hn:n=w.heap.size) (hl:l.length≤100):Row (w.alloc (.cells (l.map Value.string).toArray 9)) (fun b=>b=n) 1 (.slice (some ⟨n,0,none⟩) l.length l.length) l.length (l.map .string):=by
  subst hn;have h:=(aj.new w 9 (l.map Value.string).toArray).row (S:=fun b=>b=w.heap.size) (n:=l.length) (size:=1) (by simp) (by unfold maxLen;omega) rfl
  simpa using h
theorem ba {w:World} {n:Nat} {o:Obj} (hn:n=w.heap.size):Hg (fun b=>b=n) (w.alloc o):=fun b hb=>by simp;omega
theorem aj.cells4 {w:World} {g:Nat} {t:TypeId} {c0 c1 c2 c3:Value} (h:aj w g t #[c0,c1,c2,c3]) :
    w.cell? ⟨g,0,none⟩=some c0∧w.cell? ⟨g,1,none⟩=some c1∧w.cell? ⟨g,2,none⟩=some c2∧w.cell? ⟨g,3,none⟩=some c3∧(∀ i,w.frozen? ⟨g,i,none⟩=false)∧g<w.heap.size:=
  ⟨h.cell 0,h.cell 1,h.cell 2,h.cell 3,h.frozen,h.lt⟩
theorem aj.cells5 {w:World} {g:Nat} {t:TypeId} {c0 c1 c2 c3 c4:Value} (h:aj w g t #[c0,c1,c2,c3,c4]) :
    w.cell? ⟨g,0,none⟩=some c0∧w.cell? ⟨g,1,none⟩=some c1∧w.cell? ⟨g,2,none⟩=some c2∧w.cell? ⟨g,3,none⟩=some c3∧w.cell? ⟨g,4,none⟩=some c4∧(∀ i,w.frozen? ⟨g,i,none⟩=false)∧g<w.heap.size:=
  ⟨h.cell 0,h.cell 1,h.cell 2,h.cell 3,h.cell 4,h.frozen,h.lt⟩
theorem PS.cells {i:Nat} (h:PS E w i b):w.cell? ⟨E.g,0,none⟩=some (.slice (some ⟨E.a,E.o,none⟩) E.ts.length E.cap)∧w.cell? ⟨E.g,1,none⟩=some (.int .i64 i)∧w.cell? ⟨E.g,2,none⟩=some (.bool b)∧(∀ i,w.frozen? ⟨E.g,i,none⟩=false)∧E.g<w.heap.size:=
  ⟨h.blk.cell 0,h.blk.cell 1,h.blk.cell 2,h.blk.frozen,h.glt⟩
/-! ### a struct written cell by cell -/
theorem PS.far {i:Nat} (h:PS E w i b) {p:Addr} (h1:p.block≠E.g) (h2:p.block≠E.a) (u:Value):PS E (w.setCell p u) i b:=
  ⟨h.blk.far (fun e=>h1 e.symm) u,fun j hj=>by
    have e:(w.setCell p u).heap[E.a]? = w.heap[E.a]?:=Below.heap_setCell w p u E.a (fun e=>h2 e.symm);obtain ⟨h1,h2,h3,h4⟩:=h.tok j hj
    exact ⟨(World.cell?_of_block (a:=⟨E.a,_,none⟩) e).trans h1,(World.cell?_of_block (a:=⟨E.a,_,none⟩) e).trans h2,(World.cell?_of_block (a:=⟨E.a,_,none⟩) e).trans h3,(World.cell?_of_block (a:=⟨E.a,_,none⟩) e).trans h4⟩,
   h.ne,by simpa using h.lt,h.ilt⟩
theorem PS.far4 {i r:Nat} (h:PS E w i b) (h1:r≠E.g) (h2:r≠E.a) (u0 u1 u2 u3:Value):PS E ((((w.setCell ⟨r,0,none⟩ u0).setCell ⟨r,1,none⟩ u1).setCell ⟨r,2,none⟩ u2).setCell ⟨r,3,none⟩ u3) i b:=
  (((h.far h1 h2 _).far h1 h2 _).far h1 h2 _).far h1 h2 _
theorem PS.far5 {i r:Nat} (h:PS E w i b) (h1:r≠E.g) (h2:r≠E.a) (u0 u1 u2 u3 u4:Value):PS E (((((w.setCell ⟨r,0,none⟩ u0).setCell ⟨r,1,none⟩ u1).setCell ⟨r,2,none⟩ u2).setCell ⟨r,3,none⟩ u3).setCell ⟨r,4,none⟩ u4) i b:=
  (h.far4 h1 h2 _ _ _ _).far h1 h2 _
theorem PS.alloc {i:Nat} (h:PS E w i b) (o:Obj):PS E (w.alloc o) i b:=h.below (aG _ _)
theorem ay.set4 {X:Nat→Prop} {a c:World} {r:Nat} (h:ay X a c) (hr:a.heap.size≤r∨X r) (u0 u1 u2 u3:Value):ay X a ((((c.setCell ⟨r,0,none⟩ u0).setCell ⟨r,1,none⟩ u1).setCell ⟨r,2,none⟩ u2).setCell ⟨r,3,none⟩ u3):=
  (((h.set_ (p:=⟨r,0,none⟩) hr _).set_ (p:=⟨r,1,none⟩) hr _).set_ (p:=⟨r,2,none⟩) hr _).set_ (p:=⟨r,3,none⟩) hr _
theorem ay.set5 {X:Nat→Prop} {a c:World} {r:Nat} (h:ay X a c) (hr:a.heap.size≤r∨X r) (u0 u1 u2 u3 u4:Value):ay X a (((((c.setCell ⟨r,0,none⟩ u0).setCell ⟨r,1,none⟩ u1).setCell ⟨r,2,none⟩ u2).setCell ⟨r,3,none⟩ u3).setCell ⟨r,4,none⟩ u4):=
  (h.set4 hr _ _ _ _).set_ (p:=⟨r,4,none⟩) hr _
theorem aI.set5 {S:Nat→Prop} {a c:World} {r:Nat} (h:aI S a c) (hr:¬ S r) (u0 u1 u2 u3 u4:Value):aI S a (((((c.setCell ⟨r,0,none⟩ u0).setCell ⟨r,1,none⟩ u1).setCell ⟨r,2,none⟩ u2).setCell ⟨r,3,none⟩ u3).setCell ⟨r,4,none⟩ u4):=
  ((((h.set_ (p:=⟨r,0,none⟩) hr _).set_ (p:=⟨r,1,none⟩) hr _).set_ (p:=⟨r,2,none⟩) hr _).set_ (p:=⟨r,3,none⟩) hr _).set_ (p:=⟨r,4,none⟩) hr _
theorem aI.set4 {S:Nat→Prop} {a c:World} {r:Nat} (h:aI S a c) (hr:¬ S r) (u0 u1 u2 u3:Value):aI S a ((((c.setCell ⟨r,0,none⟩ u0).setCell ⟨r,1,none⟩ u1).setCell ⟨r,2,none⟩ u2).setCell ⟨r,3,none⟩ u3):=
  (((h.set_ (p:=⟨r,0,none⟩) hr _).set_ (p:=⟨r,1,none⟩) hr _).set_ (p:=⟨r,2,none⟩) hr _).set_ (p:=⟨r,3,none⟩) hr _
theorem aj.put4 {w:World} {g:Nat} {t:TypeId} {c0 c1 c2 c3:Value} (h:aj w g t #[c0,c1,c2,c3]) (u0 u1 u2 u3:Value) :
    aj ((((w.setCell ⟨g,0,none⟩ u0).setCell ⟨g,1,none⟩ u1).setCell ⟨g,2,none⟩ u2).setCell ⟨g,3,none⟩ u3) g t #[u0,u1,u2,u3]:=by
  simpa using (((h.set_ 0 u0).set_ 1 u1).set_ 2 u2).set_ 3 u3
theorem aj.put5 {w:World} {g:Nat} {t:TypeId} {c0 c1 c2 c3 c4:Value} (h:aj w g t #[c0,c1,c2,c3,c4]) (u0 u1 u2 u3 u4:Value) :
    aj (((((w.setCell ⟨g,0,none⟩ u0).setCell ⟨g,1,none⟩ u1).setCell ⟨g,2,none⟩ u2).setCell ⟨g,3,none⟩ u3).setCell ⟨g,4,none⟩ u4) g t #[u0,u1,u2,u3,u4]:=by
  simpa using ((((h.set_ 0 u0).set_ 1 u1).set_ 2 u2).set_ 3 u3).set_ 4 u4
theorem aj.far4 {w:World} {g r:Nat} {t:TypeId} {cs:Array Value} (h:aj w g t cs) (hr:g≠r) (u0 u1 u2 u3:Value) :
    aj ((((w.setCell ⟨r,0,none⟩ u0).setCell ⟨r,1,none⟩ u1).setCell ⟨r,2,none⟩ u2).setCell ⟨r,3,none⟩ u3) g t cs:=
  (((h.far (p:=⟨r,0,none⟩) hr u0).far (p:=⟨r,1,none⟩) hr u1).far (p:=⟨r,2,none⟩) hr u2).far (p:=⟨r,3,none⟩) hr u3
theorem aj.far5 {w:World} {g r:Nat} {t:TypeId} {cs:Array Value} (h:aj w g t cs) (hr:g≠r) (u0 u1 u2 u3 u4:Value) :
    aj (((((w.setCell ⟨r,0,none⟩ u0).setCell ⟨r,1,none⟩ u1).setCell ⟨r,2,none⟩ u2).setCell ⟨r,3,none⟩ u3).setCell ⟨r,4,none⟩ u4) g t cs:=
  (h.far4 hr u0 u1 u2 u3).far (p:=⟨r,4,none⟩) hr u4
theorem aj.but {X:Nat→Prop} {w w':World} {g:Nat} {t:TypeId} {cs:Array Value} (h:aj w g t cs) (hb:ay X w w') (hg:¬ X g):aj w' g t cs:=(hb.block g h.lt hg).trans h
theorem yR {fn:Func} {R:Ending→World→Prop} {a:Act} {W:World} {r k:Nat} {u0 u1 u2 u3:Value} (iR:fn.results = #[.cell k 36]) (hs:a.tmps[k]?.getD undef = .pointer (some ⟨r,0,none⟩))
    (hB:aj W r 36 #[u0,u1,u2,u3]) (hd:a.defers=[]) (hR:R (.returned (.agg #[u0,u1,u2,u3])) W):bodyPost prog fn R .ret a W:=by
  obtain ⟨r0,r1,r2,r3,rf,rl⟩:=hB.cells4;refine bodyPost_ret ?_ hd hR;simp [results,iR,hs,go_sem,r0,r1,r2,r3]
theorem am {fn:Func} {R:Ending→World→Prop} {a:Act} {W:World} {r k:Nat} {u0 u1 u2 u3 u4:Value} (iR:fn.results = #[.cell k 25]) (hs:a.tmps[k]?.getD undef = .pointer (some ⟨r,0,none⟩))
    (hB:aj W r 25 #[u0,u1,u2,u3,u4]) (hd:a.defers=[]) (hR:R (.returned (.agg #[u0,u1,u2,u3,u4])) W):bodyPost prog fn R .ret a W:=by
  obtain ⟨r0,r1,r2,r3,r4,rf,rl⟩:=hB.cells5;refine bodyPost_ret ?_ hd hR;simp [results,iR,hs,go_sem,r0,r1,r2,r3,r4]
theorem dN (hE:eH E) (h:PS E w i b) (hi:i+1<E.ts.length):Calls prog 61 #[(.pointer (some ⟨E.g,0,none⟩))] w fun e w'=>e = .returned (cu (E.tok i))∧PS E w' (i+1) b∧ay (fun k=>k=E.g) w w':=by
  have iS:=hE.len;have sE:=h.glt;have HP:=zh h;have HE:=zh hE;clear h hE;have iM:=aO;have iT:=aU;have jf:=aT;have iL:=aS;go_enter func61,ntmps61;go_wp2_with fail;refine (bT HE.o (HP.o.below (aG _ _))).mono ?_;rintro e w1 ⟨rfl,cB⟩;simp only [cu];have et:=cB.size;simp at et;have hgw:E.g<w.heap.size:=sE;have sX:=zh ((aj.new w _ _).below cB (by simp));have bp:=zh ((HP.o.below (aG _ _)).below cB);have a7:Hd (Below w.heap.size w w1):=(aG _ _).trans (cB.mono (by simp));obtain ⟨q0,q1,q2,qf,ql⟩:=bp.o.cells;obtain ⟨r0,r1,r2,r3,rf,rl⟩:=sX.o.cells4;clear cB q0 q2;go_wp2_with fail;have hB:=((sX.o.far (p:=⟨E.g,1,none⟩) (by simp;omega) (.int .i64 (i+1))).put4 (.int .i64 (E.tok i).k) (.int .i64 (E.tok i).fr) (.int .i64 (E.tok i).to) (.string (E.tok i).tx)).alloc (.cells #[.int .i64 (E.tok i).k,.int .i64 (E.tok i).fr,.int .i64 (E.tok i).to,.string (E.tok i).tx] 36);refine yR (r:=w.heap.size) results61 rfl hB rfl ⟨rfl,?_,?_⟩
  · exact ((bp.o.set1 (j:=i+1) hi).far4 (r:=w.heap.size) (by omega) (by have:=HP.o.lt;omega) _ _ _ _).alloc _
  · exact (((ay.of_below (X:=fun k=>k=E.g) a7.o).set_ (p:=⟨E.g,1,none⟩) (.inr rfl) _).set4 (.inl (Nat.le_refl _)) _ _ _ _).alloc _
theorem mt (hE:eH E) (h:PS E w i b) (hr:Row w S 1 v l.length (l.map .string)) (hS:Hg S w) (hq:oneOf (E.tok i) l=true) :
    Calls prog 67 #[(.pointer (some ⟨E.g,0,none⟩)),v] w fun e w'=>e = .returned (.bool true)∧PS E w' (i+1) b∧ay (fun k=>k=E.g) w w':=by
  obtain ⟨A1,c1,rfl,eN⟩:=hr.form;have iS:=hE.len;have hi:i+1<E.ts.length:=hE.wt.nxt i h.ilt (cF hq);have HP:=zh h;have HE:=zh hE;clear h hE;have HR:=zh hr;have HS:=zh hS;have HQ:=zh hq;clear hr hS hq;have iM:=aO;have iT:=aU;have jf:=aT;have iL:=aS;go_enter func67,ntmps67;go_wp2_with fail;refine (bm HE.o HP.o HR.o HS.o).mono ?_;rintro e w1 ⟨rfl,cB⟩;rw [HQ.o];have bp:=zh (HP.o.below cB);have a7:=zh cB;obtain ⟨q0,q1,q2,qf,ql⟩:=bp.o.cells;clear cB q0 q2;go_wp2_with fail;go_ret;exact ⟨rfl,bp.o.set1 hi,(ay.of_below (X:=fun k=>k=E.g) a7.o).set_ (p:=⟨E.g,1,none⟩) (.inr rfl) _⟩
theorem o3 (hE:eH E) (h:PS E w i b) (hr:Row w S 1 v l.length (l.map .string)) (hS:Hg S w) (hq:oneOf (E.tok i) l=false) :
    Calls prog 67 #[(.pointer (some ⟨E.g,0,none⟩)),v] w fun e w'=>e = .returned (.bool false)∧Below w.heap.size w w':=by
  obtain ⟨A1,c1,rfl,eN⟩:=hr.form;have HP:=zh h;have HE:=zh hE;clear h hE;have HR:=zh hr;have HS:=zh hS;have HQ:=zh hq;clear hr hS hq;have iM:=aO;have iT:=aU;have jf:=aT;have iL:=aS;go_enter func67,ntmps67;go_wp2_with fail;refine (bm HE.o HP.o HR.o HS.o).mono ?_;rintro e w1 ⟨rfl,cB⟩;rw [HQ.o];have a7:=zh cB;clear cB;go_wp2_with fail;go_ret;exact ⟨rfl,a7.o⟩
theorem jT {w:World} {n:Nat} {x:ByteArray} (hn:n=w.heap.size):Row (w.alloc (.cells #[.string x] 9)) (fun b=>b=n) 1 (.slice (some ⟨n,0,none⟩) 1 1) ([x]:List ByteArray).length (([x]:List ByteArray).map .string):=by
  simpa using aW (w:=w) [x] hn (by simp)
theorem bI (hE:eH E) (h:PS E w i b) {x:ByteArray} (hq:oneOf (E.tok i) [x]=true) :
    Calls prog 56 #[(.pointer (some ⟨E.g,0,none⟩)),.string x] w fun e w'=>e = .returned (cu (E.tok i))∧PS E w' (i+1) b∧ay (fun k=>k=E.g) w w':=by
  have iS:=hE.len;have hi:i+1<E.ts.length:=hE.wt.nxt i h.ilt (cF hq);have fU:=h.glt;have ic:=h.lt;have HP:=zh h;have HE:=zh hE;clear h hE;have HQ:=zh hq;clear hq;have iM:=aO;have iT:=aU;have jf:=aT;have iL:=aS;go_enter func56,ntmps56;go_wp2_with fail;refine (bm (l:=[x]) HE.o ((HP.o.alloc _).alloc _) (jT (n:=w.heap.size+1) (by simp)) (ba (by simp))).mono ?_;rintro e w1 ⟨rfl,cB⟩;rw [HQ.o];have sX:=zh (((aj.new w _ _).alloc _).below cB (by simp;omega));have bp:=zh (((HP.o.alloc _).alloc _).below cB);have et:=cB.size;simp at et;have a7:Hd (Below w.heap.size w w1):=((aG _ _).alloc (by simp) _).trans (cB.mono (by simp;omega));clear cB;go_wp2_with fail;refine (dN HE.o bp.o hi).mono ?_;rintro e w2 ⟨rfl,jM,cK⟩;simp only [cu];have bn:=zh jM;have sk:=zh (sX.o.but cK (by omega));have aE:Hd (ay (fun k=>k=E.g) w w2):=(ay.of_below a7.o).trans cK (fun _ _ h=>h);obtain ⟨r0,r1,r2,r3,rf,rl⟩:=sk.o.cells4;clear jM cK;go_wp2_with fail;refine yR (r:=w.heap.size) results56 rfl (sk.o.put4 _ _ _ _) rfl ⟨rfl,?_,?_⟩
  · exact bn.o.far4 (by omega) (by omega) _ _ _ _
  · exact aE.o.set4 (.inl (Nat.le_refl _)) _ _ _ _
theorem ci (hE:eH E) (h:PS E w i b) {x:ByteArray} (hq:oneOf (E.tok i) [x]=false) :
    Calls prog 56 #[(.pointer (some ⟨E.g,0,none⟩)),.string x] w fun e w'=>e = .panicked (Cv (E.tok i).fr)∧Below w.heap.size w w':=by
  have HP:=zh h;have HE:=zh hE;clear h hE;have HQ:=zh hq;clear hq;have iM:=aO;have iT:=aU;have jf:=aT;have iL:=aS;go_enter func56,ntmps56;go_wp2_with fail;refine (bm (l:=[x]) HE.o ((HP.o.alloc _).alloc _) (jT (n:=w.heap.size+1) (by simp)) (ba (by simp))).mono ?_;rintro e w1 ⟨rfl,cB⟩;rw [HQ.o];have bp:=zh (((HP.o.alloc _).alloc _).below cB);have et:=cB.size;simp at et;have a7:Hd (Below w.heap.size w w1):=((aG _ _).alloc (by simp) _).trans (cB.mono (by simp;omega));clear cB;go_wp2_with fail;refine (cI HE.o bp.o).mono ?_;rintro e w2 ⟨rfl,cK⟩;have aE:=zh (a7.o.trans (cK.mono a7.o.size));clear cK;go_wp2_with fail;exact ⟨rfl,rfl,aE.o⟩
theorem ij (hE:eH E) (h:PS E w i b) (hq:(E.tok i).k=6) :
    Calls prog 59 #[(.pointer (some ⟨E.g,0,none⟩))] w fun e w'=>e = .returned (.tuple #[])∧PS E w' (i+1) b∧ay (fun k=>k=E.g) w w':=by
  have iS:=hE.len;have hi:i+1<E.ts.length:=hE.wt.nxt i h.ilt (by rw [show ap E.ts i=E.tok i from rfl,hq];decide);(have R3:((E.tok i).k != 6)=false:=by simpa using hq);clear hq;have HP:=zh h;have HE:=zh hE;clear h hE;have iM:=aO;have iT:=aU;have jf:=aT;have iL:=aS;go_enter func59,ntmps59;go_wp2_with fail;refine (bT HE.o HP.o).mono ?_;rintro e w1 ⟨rfl,cB⟩;simp only [cu];have bp:=zh (HP.o.below cB);have a7:=zh cB;obtain ⟨q0,q1,q2,qf,ql⟩:=bp.o.cells;clear cB q0 q2;go_wp2_with fail
  go_end0
  exact ⟨rfl,bp.o.set1 hi,(ay.of_below (X:=fun k=>k=E.g) a7.o).set_ (p:=⟨E.g,1,none⟩) (.inr rfl) _⟩
theorem jV (hE:eH E) (h:PS E w i b) (hq:¬(E.tok i).k=6) :
    Calls prog 59 #[(.pointer (some ⟨E.g,0,none⟩))] w fun e w'=>e = .panicked (Cv (E.tok i).fr)∧Below w.heap.size w w':=by
  (have R3:((E.tok i).k != 6)=true:=by simpa using hq);clear hq;have HP:=zh h;have HE:=zh hE;clear h hE;have iM:=aO;have iT:=aU;have jf:=aT;have iL:=aS;go_enter func59,ntmps59;go_wp2_with fail;refine (bT HE.o HP.o).mono ?_;rintro e w1 ⟨rfl,cB⟩;simp only [cu];have bp:=zh (HP.o.below cB);have a7:=zh cB;clear cB;go_wp2_with fail;refine (cI HE.o bp.o).mono ?_;rintro e w2 ⟨rfl,cK⟩;have aE:=zh (a7.o.trans (cK.mono a7.o.size));clear cK;go_wp2_with fail;exact ⟨rfl,rfl,aE.o⟩
theorem dn (hE:eH E) (h:PS E w i b) (hq:(E.tok i).k=1) :
    Calls prog 57 #[(.pointer (some ⟨E.g,0,none⟩))] w fun e w'=>e = .returned (.agg #[.int .i64 40,.int .i64 (E.tok i).fr,.int .i64 (E.tok i).to,.string (E.tok i).tx,.slice none 0 0])∧PS E w' (i+1) b∧ay (fun k=>k=E.g) w w':=by
  have iS:=hE.len;have hi:i+1<E.ts.length:=hE.wt.nxt i h.ilt (by rw [show ap E.ts i=E.tok i from rfl,hq];decide);have fU:=h.glt;have ic:=h.lt;have HP:=zh h;have HE:=zh hE;clear h hE;have HQ:=zh hq;clear hq;have iM:=aO;have iT:=aU;have jf:=aT;have iL:=aS;go_enter func57,ntmps57;go_wp2_with fail;refine (gD HE.o (HP.o.alloc _)).mono ?_;rintro e w1 ⟨rfl,cB⟩;rw [show decide ((E.tok i).k=1)=true from decide_eq_true HQ.o];have sX:=zh ((aj.new w _ _).below cB (by simp));have bp:=zh ((HP.o.alloc _).below cB);have et:=cB.size;simp at et;have a7:Hd (Below w.heap.size w w1):=(aG _ _).trans (cB.mono (by simp));clear cB;go_wp2_with fail;refine (dN HE.o bp.o hi).mono ?_;rintro e w2 ⟨rfl,jM,cK⟩;simp only [cu];have ep:=cK.size;have bn:=zh jM;have sk:=zh (sX.o.but cK (by omega));have aE:Hd (ay (fun k=>k=E.g) w w2):=(ay.of_below a7.o).trans cK (fun _ _ h=>h);obtain ⟨r0,r1,r2,r3,r4,rf,rl⟩:=sk.o.cells5;clear jM cK;go_wp2_with fail;refine am (r:=w.heap.size) results57 rfl ((sk.o.put5 _ _ _ _ _).alloc _) rfl ⟨rfl,?_,?_⟩
  · exact (bn.o.far5 (by omega) (by omega) _ _ _ _ _).alloc _
  · exact (aE.o.set5 (.inl (Nat.le_refl _)) _ _ _ _ _).alloc _
theorem dV (hE:eH E) (h:PS E w i b) (hq:¬(E.tok i).k=1) :
    Calls prog 57 #[(.pointer (some ⟨E.g,0,none⟩))] w fun e w'=>e = .panicked (Cv (E.tok i).fr)∧Below w.heap.size w w':=by
  have HP:=zh h;have HE:=zh hE;clear h hE;have HQ:=zh hq;clear hq;have iM:=aO;have iT:=aU;have jf:=aT;have iL:=aS;go_enter func57,ntmps57;go_wp2_with fail;refine (gD HE.o (HP.o.alloc _)).mono ?_;rintro e w1 ⟨rfl,cB⟩;rw [show decide ((E.tok i).k=1)=false from decide_eq_false HQ.o];have bp:=zh ((HP.o.alloc _).below cB);have et:=cB.size;simp at et;have a7:Hd (Below w.heap.size w w1):=(aG _ _).trans (cB.mono (by simp));clear cB;go_wp2_with fail;refine (cI HE.o bp.o).mono ?_;rintro e w2 ⟨rfl,cK⟩;have aE:=zh (a7.o.trans (cK.mono a7.o.size));clear cK;go_wp2_with fail;exact ⟨rfl,rfl,aE.o⟩
theorem qR (hE:eH E) (h:PS E w i b) (h1:1≤i):Calls prog 58 #[(.pointer (some ⟨E.g,0,none⟩))] w fun e w'=>e = .returned (.int .i64 (E.tok (i - 1)).to)∧Below w.heap.size w w':=by
  obtain ⟨j,rfl⟩:∃ j,i=j+1:=⟨i - 1,by omega⟩;rw [Nat.add_sub_cancel];have iS:=hE.len;have eY:=h.ilt;(have Nr:j<E.ts.length:=by omega);obtain ⟨t0,t1,t2,t3⟩:=h.tok j Nr;obtain ⟨q0,q1,q2,qf,ql⟩:=h.cells;have QC:=h.lt;clear h hE q2 t0 t1 t3;have iM:=aO;have iT:=aU;have jf:=aT;have iL:=aS;go_enter func58,ntmps58;go_wp2_with fail
  go_region
  all_goals
    go_wp2_with fail;go_ret;exact ⟨rfl,(Below.refl _ _).drew⟩
theorem ak (hE:eH E) (h:PS E w i b) (h1:1≤i) {k fr:Int} {tx:ByteArray} {B:Option Addr} {n c:Nat}:Calls prog 62 #[(.pointer (some ⟨E.g,0,none⟩)),.int .i64 k,.int .i64 fr,.string tx,.slice B n c] w fun e w'=>
    e = .returned (.agg #[.int .i64 k,.int .i64 fr,.int .i64 (E.tok (i - 1)).to,.string tx,.slice B n c])∧Below w.heap.size w w':=by
  have HP:=zh h;have HE:=zh hE;clear h hE;have iM:=aO;have iT:=aU;have jf:=aT;have iL:=aS;go_enter func62,ntmps62;go_wp2_with fail;refine (qR HE.o (HP.o.alloc _) h1).mono ?_;rintro e w1 ⟨rfl,cB⟩;have sX:=zh ((aj.new w _ _).below cB (by simp));have et:=cB.size;simp at et;have a7:Hd (Below w.heap.size w w1):=(aG _ _).trans (cB.mono (by simp));obtain ⟨r0,r1,r2,r3,r4,rf,rl⟩:=sX.o.cells5;clear cB;go_wp2_with fail;refine am (r:=w.heap.size) results62 rfl (sX.o.put5 _ _ _ _ _) rfl ⟨rfl,?_⟩;exact ((ay.of_below (X:=fun _=>False) a7.o).set5 (.inl (Nat.le_refl _)) _ _ _ _ _).below (fun _ _ h=>h.elim) (Nat.le_refl _)
theorem bF:Calls prog 80 #[] w fun e w'=>e = .returned (.agg #[.int .i64 7,.int .i64 0,.int .i64 0,.string ⟨#[]⟩,.slice none 0 0])∧Below w.heap.size w w':=by
  go_enter func80,ntmps80;go_wp2_with fail;exact am (r:=w.heap.size) results80 rfl (aj.new _ _ _) rfl ⟨rfl,aG _ _⟩
theorem tH (hE:eH E) (h:PS E w i b) {k:Int}:Calls prog 137 #[(.pointer (some ⟨E.g,0,none⟩)),.int .i64 k] w fun e w'=>
    e = .returned (.agg #[.int .i64 k,.int .i64 (E.tok i).fr,.int .i64 (E.tok i).fr,.string ⟨#[]⟩,.slice none 0 0])∧Below w.heap.size w w':=by
  have HP:=zh h;have HE:=zh hE;clear h hE;have iM:=aO;have iT:=aU;have jf:=aT;have iL:=aS;go_enter func137,ntmps137;go_wp2_with fail;refine (cY HE.o (HP.o.alloc _)).mono ?_;rintro e w1 ⟨rfl,cB⟩;have sX:=zh ((aj.new w _ _).below cB (by simp));have bp:=zh ((HP.o.alloc _).below cB);have et:=cB.size;simp at et;have a7:Hd (Below w.heap.size w w1):=(aG _ _).trans (cB.mono (by simp));clear cB;go_wp2_with fail;refine (cY HE.o bp.o).mono ?_;rintro e w2 ⟨rfl,cK⟩;have sk:=zh (sX.o.below cK (by omega));have aE:=zh (a7.o.trans (cK.mono a7.o.size));obtain ⟨r0,r1,r2,r3,r4,rf,rl⟩:=sk.o.cells5;clear cK;go_wp2_with fail;refine am (r:=w.heap.size) results137 rfl (sk.o.put5 _ _ _ _ _) rfl ⟨rfl,?_⟩;exact ((ay.of_below (X:=fun _=>False) aE.o).set5 (.inl (Nat.le_refl _)) _ _ _ _ _).below (fun _ _ h=>h.elim) (Nat.le_refl _)
end
set_option maxRecDepth 100000
set_option maxHeartbeats 1000000
section
variable {E:Env} {w:World} {i:Nat} {b:Bool} {l:List ByteArray} {v:Value} {S:Nat→Prop}
theorem lP (hE:eH E) (h:PS E w i b) {n:Nat} (hn:n≤2):Calls prog 152 #[(.pointer (some ⟨E.g,0,none⟩)),.int .i64 n] w fun e w'=>
    e = .returned (cu (E.tok (min (i+n) (E.ts.length - 1))))∧Below w.heap.size w w':=by
  obtain ⟨m,hm⟩:∃ m,m=min (i+n) (E.ts.length - 1):=⟨_,rfl⟩;(have hmn:(if (E.ts.length:Int) - 1<(i:Int)+(n:Int) then (E.ts.length:Int) - 1 else (i:Int)+(n:Int))=(m:Int):=by have:=h.ilt;split <;> omega);(have YM:m<E.ts.length:=by have:=h.ilt;omega);rw [← hm];obtain ⟨t0,t1,t2,t3⟩:=h.tok m YM;obtain ⟨q0,q1,q2,qf,ql⟩:=h.cells;have QC:=h.lt;have iS:=hE.len;have eY:=h.ilt;clear h hE q2 hm;have iM:=aO;go_enter func152,ntmps152;go_wp2_with fail
  go_region
  all_goals
    go_wp2_with fail;exact yR (r:=w.heap.size) results152 rfl (aj.drew (aj.new w _ _)) rfl ⟨rfl,(aG _ _).drew⟩
theorem AW (hE:eH E) (h:PS E w i b):Calls prog 136 #[(.pointer (some ⟨E.g,0,none⟩))] w fun e w'=>e = .returned (.bool (lU (E.tok i)))∧Below w.heap.size w w':=by
  have HP:=zh h;have HE:=zh hE;clear h hE;have iM:=aO;go_enter func136,ntmps136;go_wp2_with fail;refine (gD HE.o HP.o).mono ?_;rintro e w1 ⟨rfl,cB⟩;have bp:=zh (HP.o.below cB);have a7:=zh cB;by_cases hk:(E.tok i).k=1
  · rw [show decide ((E.tok i).k=1)=true from decide_eq_true hk]
    (have HQ:Hd (lU (E.tok i)=true):=by unfold lU;rw [decide_eq_true hk];exact rfl);clear hk cB;go_wp2_with fail;go_ret;exact ⟨by rw [HQ.o];rfl,a7.o⟩
  · rw [show decide ((E.tok i).k=1)=false from decide_eq_false hk]
    (have HQ:Hd (lU (E.tok i)=oneOf (E.tok i) [⟨#[42]⟩,⟨#[91]⟩,⟨#[99,104,97,110]⟩,⟨#[102,117,110,99]⟩,⟨#[115,116,114,117,99,116]⟩,⟨#[105,110,116,101,114,102,97,99,101]⟩,⟨#[40]⟩]):=by unfold lU;rw [decide_eq_false hk];exact rfl);clear hk cB;go_wp2_with fail;refine (bm (l:=[⟨#[42]⟩,⟨#[91]⟩,⟨#[99,104,97,110]⟩,⟨#[102,117,110,99]⟩,⟨#[115,116,114,117,99,116]⟩,⟨#[105,110,116,101,114,102,97,99,101]⟩,⟨#[40]⟩]) HE.o (bp.o.alloc _) (aW (n:=w1.heap.size) _ rfl (by simp)) (ba rfl)).mono ?_;rintro e w2 ⟨rfl,cK⟩;have aE:=zh (a7.o.trans ((aG _ _).trans (cK.mono (by simp)) |>.mono a7.o.size));clear cK;go_wp2_with fail;go_ret;exact ⟨by rw [HQ.o];rfl,aE.o⟩
theorem z8 (hE:eH E) (h:PS E w i b):Calls prog 165 #[(.pointer (some ⟨E.g,0,none⟩))] w fun e w'=>e = .returned (.bool (j1 (E.tok i)))∧Below w.heap.size w w':=by
  have HP:=zh h;have HE:=zh hE;clear h hE;have iM:=aO;go_enter func165,ntmps165;go_wp2_with fail;refine (bT HE.o HP.o).mono ?_;rintro e w1 ⟨rfl,cB⟩;simp only [cu];have bp:=zh (HP.o.below cB);have a7:=zh cB;clear cB;by_cases hk:(E.tok i).k=1∨(E.tok i).k=2∨(E.tok i).k=3
  · have HQ:Hd (j1 (E.tok i)=true):=by
      unfold j1;(have:(decide ((E.tok i).k=1) || decide ((E.tok i).k=2) || decide ((E.tok i).k=3))=true:=by simpa [or_assoc] using hk);rw [this];exact rfl
    rcases hk with hk | hk | hk
    all_goals
      rw [hk];clear hk;go_wp2_with fail;go_ret;exact ⟨by rw [HQ.o];rfl,a7.o⟩
  · have HQ:Hd (j1 (E.tok i)=oneOf (E.tok i) [⟨#[45]⟩,⟨#[33]⟩,⟨#[38]⟩,⟨#[42]⟩,⟨#[60,45]⟩,⟨#[40]⟩,⟨#[102,117,110,99]⟩,⟨#[91]⟩]):=by
      unfold j1;(have:(decide ((E.tok i).k=1) || decide ((E.tok i).k=2) || decide ((E.tok i).k=3))=false:=by simpa [and_assoc] using hk);rw [this];exact rfl
    (have h1:((E.tok i).k == 1)=false:=by simpa using fun e=>hk (.inl e));(have h2:((E.tok i).k == 2)=false:=by simpa using fun e=>hk (.inr (.inl e)));(have h3:((E.tok i).k == 3)=false:=by simpa using fun e=>hk (.inr (.inr e)));clear hk;go_wp2_with fail;refine (bm (l:=[⟨#[45]⟩,⟨#[33]⟩,⟨#[38]⟩,⟨#[42]⟩,⟨#[60,45]⟩,⟨#[40]⟩,⟨#[102,117,110,99]⟩,⟨#[91]⟩]) HE.o (bp.o.alloc _) (aW (n:=w1.heap.size) _ rfl (by simp)) (ba rfl)).mono ?_;rintro e w2 ⟨rfl,cK⟩;have aE:=zh (a7.o.trans ((aG _ _).trans (cK.mono (by simp)) |>.mono a7.o.size));clear cK;go_wp2_with fail;go_ret;exact ⟨by rw [HQ.o];rfl,aE.o⟩
theorem vj {t:Tk}:Calls prog 66 #[cu t] w fun e w'=>e = .returned (.int .i64 (dm t))∧Below w.heap.size w w':=by
  obtain ⟨tk,tf,tt,tx⟩:=t;simp only [cu];have iM:=aO;go_enter func66,ntmps66;by_cases hk:tk=5
  · subst hk
    obtain ⟨r,hr⟩:∃ r,dm ⟨5,tf,tt,tx⟩=r:=⟨_,rfl⟩;have ua:=hr;simp only [dm,ne_eq,not_true_eq_false,if_false,iJ,List.any_cons,List.any_nil,Bool.or_false] at ua;rw [hr];simp only [← ip] at ua;simp [go_sem] at ua;have HR:=zh ua;clear hr ua;go_wp2_with fail
    all_goals
      go_ret;refine ⟨?_,aG _ _⟩;rw [← HR.o]
      simp_all [go_sem]
  · have HR:Hd (dm ⟨tk,tf,tt,tx⟩=0):=by
      unfold dm;rw [if_pos hk];exact rfl
    (have h5:(tk != 5)=true:=by simpa using hk);clear hk;go_wp2_with fail;go_ret;exact ⟨by rw [HR.o];rfl,aG _ _⟩
end
def t_ (n k:Nat):Array Bool:=(List.replicate k true ++ List.replicate (n - k) false).toArray
theorem Bv {n k:Nat} (h:k<n):(t_ n k).setIfInBounds k true=t_ n (k+1):=by
  obtain ⟨m,rfl⟩:∃ m,n=k+(m+1):=⟨n - k - 1,by omega⟩;unfold t_;rw [UC,show k+(m+1) - k=m+1 from by omega,show k+(m+1) - (k+1)=m from by omega,List.set_append_right _ _ (by simp),List.length_replicate,Nat.sub_self,List.replicate_succ,UB,List.replicate_succ' (n:=k),List.append_assoc];rfl
theorem GG (n:Nat):t_ n 0=Array.replicate n false:=by
  unfold t_;simp
theorem I' {n k i:Nat} (h:n≤k) (hi:i<n):(t_ n k).getD i true=true:=by
  unfold t_;simp [Array.getD_eq_getD_getElem?,List.getElem?_append,List.getElem?_replicate];rw [if_pos (by omega),if_pos (by omega)];rfl
def vq (md:Region.Mode) (ops:Array Oper) (K:Nat):Bool:=
  Region.noSelect ops && (List.range K).all fun k=>Region.free md ops (t_ ops.size k) k && (Region.ready md ops (t_ ops.size k)).contains k
def rB (P:Program) (md:Region.Mode) (ops:Array Oper) (Q:Exit→Act→World→Prop) (S:World→Prop) (k:Nat) (rest:List Oper) (a:Act) (w:World):Prop:=
  ops.toList.drop k=rest→wpAnyH P md ops Q S (ops.size - k) (t_ ops.size k) a w
section
variable {P:Program} {md:Region.Mode} {ops:Array Oper} {Q:Exit→Act→World→Prop} {S:World→Prop} {k:Nat} {oi:Oper} {rest:List Oper} {v:Value} {a:Act} {w:World}
theorem vV (h:ops.toList.drop k=oi :: rest):k<ops.size∧ops[k]? = some oi∧ops.toList.drop (k+1)=rest:=by
  have hl:k<ops.toList.length:=by
    rcases Nat.lt_or_ge k ops.toList.length with h1 | h1
    · exact h1
    · rw [List.drop_eq_nil_of_le h1] at h;cases h
  rw [List.drop_eq_getElem_cons hl] at h;have h1:=(List.cons.inj h).1;refine ⟨by simpa using hl,?_,(List.cons.inj h).2⟩;rw [Array.getElem_toList] at h1;rw [← h1];exact Array.getElem?_eq_getElem (by simpa using hl)
theorem aK (K:Nat) (aF:vq md ops K=true) (h:vq md ops K=true→rB P md ops Q S 0 ops.toList a w):wpAnyH P md ops Q S ops.size (Array.replicate ops.size false) a w:=by
  have:=h aF rfl;rw [GG] at this;exact this
theorem ao {K:Nat} (aF:vq md ops K=true) (hk:k<K) (hQ:∀ c a w,Q (.panic c) (a.put oi.dst v) w→Q (.panic c) a w) (hy:YieldsIf P ops S oi v a) (hS:S w)
    (h:rB P md ops Q S (k+1) rest (a.put oi.dst v) w):rB P md ops Q S k (oi :: rest) a w:=by
  intro hd;obtain ⟨h1,h2,h3⟩:=vV hd;simp only [vq,Bool.and_eq_true,List.all_eq_true,List.mem_range] at aF;obtain ⟨h4,h5⟩:=aF.2 k hk;rw [show ops.size - k=ops.size - (k+1)+1 from by omega];refine wpAnyH_take h2 aF.1 h4 h5 hQ hy hS ?_;rw [Bv h1];exact h h3
theorem fa (hr:Region.ready md ops (t_ ops.size k)=[k])
    (h:∀ K':Act→World→Prop,Shut (∀ a w,S w→(S w→rB P md ops Q S (k+1) rest a w)→K' a w)→if Region.wanted oi (yielded ops a.tmps)=true then Oper.wp P oi a w K' Q else K' (a.put oi.dst undef) w):rB P md ops Q S k (oi :: rest) a w:=by
  intro hd;obtain ⟨h1,h2,h3⟩:=vV hd;rw [show ops.size - k=ops.size - (k+1)+1 from by omega];refine wpAnyH_ready hr (by simp) (AllReadyH.cons h2 (fun K' hK=>h K' fun a w hS hW=>hK a w hS fun hS=>?_) AllReadyH.nil);rw [Bv h1];exact hW hS h3
theorem bz (h:Q .normal a w):rB P md ops Q S k [] a w:=by
  intro hd;(have hl:ops.size≤k:=by simpa using List.drop_eq_nil_iff.1 hd);refine wpAnyH_done ?_ h _;unfold Region.ready;rw [List.filter_eq_nil_iff];intro i hi;rw [I' hl (List.mem_range.1 hi)];simp
theorem rb (h:wpAnyH P md ops Q S (ops.size - k) (t_ ops.size k) a w):rB P md ops Q S k rest a w:=fun _=>h
theorem bw (h:∀ W,Below w.heap.size w W→S W→wpAnyH P md ops Q S ops.size (Array.replicate ops.size false) a W) (hS:S w.drew):wpAnyH P md ops Q S ops.size (Array.replicate ops.size false) a w.drew:=h _ (Below.refl _ _).drew hS
end
def ze (w : World) (g : Nat) (v0 v1 v2 v3 v4 : Value) : Prop := w.cell? ⟨g, 0, none⟩ = some v0 ∧ w.cell? ⟨g, 1, none⟩ = some v1 ∧ w.cell? ⟨g, 2, none⟩ = some v2 ∧ w.cell? ⟨g, 3, none⟩ = some v3 ∧ w.cell? ⟨g, 4, none⟩ = some v4
theorem zl.{u} : (∀ (a : Act) (d : Nat) (v : Value), Act.put a (some d) v = { a with tmps := a.tmps.setIfInBounds d v }) ∧ (∀ (a : Act) (v : Value), Act.put a none v = a) ∧ (∀ {α : Type u} {xs : List α} {i : Nat} (h : i < xs.toArray.size), xs.toArray[i] = xs[i]'(by simpa using h)) ∧ (∀ {α : Type u} (x : α) (l : List α) (h : 0 < (x :: l).length), (x :: l)[0] = x) ∧ (∀ {α : Type u} (x : α) (l : List α) (i : Nat) (h : i + 1 < (x :: l).length), (x :: l)[i + 1] = l[i]'(by simpa using h)) ∧ (∀ {α : Type u} (l : List α) (i : Nat) (x : α), l.toArray.setIfInBounds i x = (l.set i x).toArray) ∧ (∀ {α : Type u} {y : α} {l : List α} {x : α}, (y :: l).set 0 x = x :: l) ∧ (∀ {α : Type u} {y : α} {l : List α} {i : Nat} {x : α}, (y :: l).set (i + 1) x = y :: l.set i x) := ⟨fun _ _ _ => rfl, fun _ _ => rfl, fun h => cr h, fun x l h => cj x l h, fun x l i h => ch x l i h, fun l i x => UC l i x, UB, VB⟩
theorem zt {P : Program} {md : Region.Mode} {ops : Array Oper} {Q : Exit → Act → World → Prop} {S : World → Prop} {k : Nat} {oi : Oper} {rest : List Oper} {v : Value} {a : Act} {w : World} {K : Nat} (aF : vq md ops K = true) (h : rB P md ops Q S (k + 1) rest (a.put oi.dst v) w) (hy : ∀ w, S w → (execOp a.eval oi).run P w = .ok (.value v) w := by intro W aH; (try dsimp only [ze] at aH); go_simp; first | done | rfl) (hk : k < K := by decide) (hw : Region.wanted oi (yielded ops a.tmps) = true := by rfl) (hS : S w := by assumption) (hQ : ∀ c a w, Q (.panic c) (a.put oi.dst v) w → Q (.panic c) a w := by exact fun _ _ _ h => h) : rB P md ops Q S k (oi :: rest) a w := ao aF hk hQ (.inl ⟨hw, hy⟩) hS h
theorem zq {P : Program} {md : Region.Mode} {ops : Array Oper} {Q : Exit → Act → World → Prop} {S : World → Prop} {fuel : Nat} {listed : Array Bool} {a : Act} {w : World} (i : Nat) {o : Oper} (h : ∀ K' : Act → World → Prop, Shut (∀ a w, S w → (S w → wpAnyH P md ops Q S fuel (listed.setIfInBounds i true) a w) → K' a w) → if Region.wanted o (yielded ops a.tmps) = true then Oper.wp P o a w K' Q else K' (a.put o.dst undef) w) (ho : ops[i]? = some o := by rfl) (hr : Region.ready md ops listed = [i] := by kernel_rfl) : wpAnyH P md ops Q S (fuel + 1) listed a w := wpAnyH_ready hr (by simp) (AllReadyH.cons ho h AllReadyH.nil)
section
variable {α β:Type}
theorem ag {x:PM α} {f:α→PM β} {s:Ps} {r:Except Int (β×Ps)} (h:(x >>= f) s=some r):∃ rx,x s=some rx∧match rx with
    | .error p=>r = .error p
    | .ok (a,s')=>f a s'=some r:=by
  rw [bind_def] at h;cases hx:x s with
  | none=>rw [hx] at h;cases h
  | some rx=>
    rw [hx] at h;refine ⟨rx,rfl,?_⟩;cases rx with
    | error p=>exact (Option.some.inj h).symm
    | ok aa=>exact h
variable {E:Env} {i:Nat} {b:Bool} {l:List ByteArray} {r:Except Int (β×Ps)}
theorem cZ {f:Bool→PM β} (h:(rp E.ts l >>= f) (i,b)=some r):f (oneOf (E.tok i) l) (i,b)=some r:=h
theorem bW {f:Tk→PM β} (h:(fo E.ts >>= f) (i,b)=some r):f (E.tok i) (i,b)=some r:=h
theorem nn {n:Nat} {f:Tk→PM β} (h:(me E.ts n >>= f) (i,b)=some r):f (E.tok (min (i+n) (E.ts.length - 1))) (i,b)=some r:=h
theorem eu {f:Int→PM β} (h:(kC E.ts >>= f) (i,b)=some r):f (E.tok i).fr (i,b)=some r:=h
theorem yS {f:Int→PM β} (h:(M7 E.ts >>= f) (i,b)=some r):f (E.tok (i - 1)).to (i,b)=some r:=h
theorem Hc {f:Bool→PM β} (h:(wj >>= f) (i,b)=some r):f b (i,b)=some r:=h
theorem cy {f:Unit→PM β} (h:(h_ >>= f) (i,b)=some r):f () (i+1,b)=some r:=h
theorem sM {f:Unit→PM β} (h:(tN >>= f) (i,b)=some r):f () (i - 1,b)=some r:=h
theorem gV {f:Tk→PM β} (h:(lG E.ts >>= f) (i,b)=some r):f (E.tok i) (i+1,b)=some r:=h
theorem bJ {a:α} {f:α→PM β} (h:((pure a:PM α) >>= f) (i,b)=some r):f a (i,b)=some r:=h
theorem EO {k:Int} {f:No→PM β} (h:(oH E.ts k >>= f) (i,b)=some r):f (.mk k (E.tok i).fr (E.tok i).fr ⟨#[]⟩ []) (i,b)=some r:=h
theorem bv {k fr:Int} {tx:ByteArray} {ks:List No} {f:No→PM β} (h:(bd E.ts k fr tx ks >>= f) (i,b)=some r):f (.mk k fr (E.tok (i - 1)).to tx ks) (i,b)=some r:=h
theorem ar {a:β} (h:(pure a:PM β) (i,b)=some r):r = .ok (a,(i,b)):=(Option.some.inj h).symm
theorem d_ (h:(kh E.ts:PM β) (i,b)=some r):r = .error (E.tok i).fr:=(Option.some.inj h).symm
theorem a6 {k fr:Int} {tx:ByteArray} {ks:List No} {r:Except Int (No×Ps)} (h:bd E.ts k fr tx ks (i,b)=some r):r = .ok (.mk k fr (E.tok (i - 1)).to tx ks,(i,b)):=(Option.some.inj h).symm
theorem G6 {k:Int} {r:Except Int (No×Ps)} (h:oH E.ts k (i,b)=some r):r = .ok (.mk k (E.tok i).fr (E.tok i).fr ⟨#[]⟩ [],(i,b)):=(Option.some.inj h).symm
theorem aM {f:Bool→PM β} (h:(bc E.ts l >>= f) (i,b)=some r) (hq:oneOf (E.tok i) l=true):f true (i+1,b)=some r:=by
  rw [bind_def] at h;unfold bc at h;rw [if_pos (show oneOf (ap E.ts (i,b).1) l=true from hq)] at h;exact h
theorem aN {f:Bool→PM β} (h:(bc E.ts l >>= f) (i,b)=some r) (hq:oneOf (E.tok i) l=false):f false (i,b)=some r:=by
  rw [bind_def] at h;unfold bc at h;rw [if_neg (show ¬oneOf (ap E.ts (i,b).1) l=true from by rw [show ap E.ts (i,b).1=E.tok i from rfl,hq];decide)] at h;exact h
theorem aY {x:ByteArray} {f:Tk→PM β} (h:(cE E.ts x >>= f) (i,b)=some r) (hq:oneOf (E.tok i) [x]=true):f (E.tok i) (i+1,b)=some r:=by
  rw [bind_def] at h;unfold cE at h;rw [if_pos (show oneOf (ap E.ts (i,b).1) [x]=true from hq)] at h;exact h
theorem aZ {x:ByteArray} {f:Tk→PM β} (h:(cE E.ts x >>= f) (i,b)=some r) (hq:oneOf (E.tok i) [x]=false):r = .error (E.tok i).fr:=by
  rw [bind_def] at h;unfold cE at h;rw [if_neg (show ¬oneOf (ap E.ts (i,b).1) [x]=true from by rw [show ap E.ts (i,b).1=E.tok i from rfl,hq];decide)] at h;exact (Option.some.inj h).symm
theorem eB {f:Unit→PM β} (h:(iI E.ts >>= f) (i,b)=some r) (hq:(E.tok i).k=6):f () (i+1,b)=some r:=by
  rw [bind_def] at h;unfold iI at h;rw [if_pos (show (ap E.ts (i,b).1).k=6 from hq)] at h;exact h
theorem eC {f:Unit→PM β} (h:(iI E.ts >>= f) (i,b)=some r) (hq:¬(E.tok i).k=6):r = .error (E.tok i).fr:=by
  rw [bind_def] at h;unfold iI at h;rw [if_neg (show ¬(ap E.ts (i,b).1).k=6 from hq)] at h;exact (Option.some.inj h).symm
theorem bX {f:No→PM β} (h:(dp E.ts >>= f) (i,b)=some r) (hq:(E.tok i).k=1):f (.mk 40 (E.tok i).fr (E.tok i).to (E.tok i).tx []) (i+1,b)=some r:=by
  rw [bind_def] at h;unfold dp at h;rw [if_pos (show (ap E.ts (i,b).1).k=1 from hq)] at h;exact h
theorem bY {f:No→PM β} (h:(dp E.ts >>= f) (i,b)=some r) (hq:¬(E.tok i).k=1):r = .error (E.tok i).fr:=by
  rw [bind_def] at h;unfold dp at h;rw [if_neg (show ¬(ap E.ts (i,b).1).k=1 from hq)] at h;exact (Option.some.inj h).symm
end
def cV {α:Type} (E:Env) (X:Nat→Prop) (w:World) (V:World→α→Value→Prop) (r:Except Int (α×Ps)) (e:Ending) (w':World):Prop:=
  ay (fun k=>k=E.g∨X k) w w'∧match r with
  | .ok a=>PS E w' a.2.1 a.2.2∧∃ v,e = .returned v∧V w' a.1 v
  | .error p=>e = .panicked (Cv p)
def eh (_:Nat):Prop:=False
def lp (w w':World) (x:No) (v:Value):Prop:=∃ A c,v = .agg #[.int .i64 x.k,.int .i64 x.fr,.int .i64 x.to,.string x.tx,.slice A x.ks.length c]∧aQ w' (kE w w') (.slice A x.ks.length c) x.ks
def QM (w w':World) (x:No×Bool) (v:Value):Prop:=∃ A c,v = .tuple #[.agg #[.int .i64 x.1.k,.int .i64 x.1.fr,.int .i64 x.1.to,.string x.1.tx,.slice A x.1.ks.length c],.bool x.2]∧aQ w' (kE w w') (.slice A x.1.ks.length c) x.1.ks
def Kj (w w':World) (l:List No) (v:Value):Prop:=∃ A c,v = .slice A l.length c∧aQ w' (kE w w') (.slice A l.length c) l
abbrev gX (E:Env) (k:Nat):Prop:=k=E.g∨eh k
section
variable {E:Env} {w w':World} {X:Nat→Prop} {i:Nat} {b:Bool}
theorem PS.far1 (h:PS E w i b) {r o:Nat} (h1:r≠E.g) (h2:r≠E.a) (u:Value):PS E (w.setCell ⟨r,o,none⟩ u) i b:=h.far (p:=⟨r,o,none⟩) h1 h2 u
theorem ay.set1 {X:Nat→Prop} {a c:World} {r o:Nat} (h:ay X a c) (hr:a.heap.size≤r∨X r) (u:Value):ay X a (c.setCell ⟨r,o,none⟩ u):=h.set_ (p:=⟨r,o,none⟩) hr u
theorem aj.far1 {w:World} {g r o:Nat} {t:TypeId} {cs:Array Value} (h:aj w g t cs) (hr:g≠r) (u:Value):aj (w.setCell ⟨r,o,none⟩ u) g t cs:=h.far (p:=⟨r,o,none⟩) hr u
theorem aj.put1 {w:World} {g:Nat} {t:TypeId} {c:Value} (h:aj w g t #[c]) (u:Value):aj (w.setCell ⟨g,0,none⟩ u) g t #[u]:=by simpa using h.set_ 0 u
theorem aI.set1 {S:Nat→Prop} {a c:World} {r o:Nat} (h:aI S a c) (hr:¬ S r) (u:Value):aI S a (c.setCell ⟨r,o,none⟩ u):=h.set_ (p:=⟨r,o,none⟩) hr u
def Iv (lo hi:Nat) (k:Nat):Prop:=lo≤k∧k<hi
theorem ku {lo hi:Nat} {W:World} (h:hi≤W.heap.size):Hg (Iv lo hi) W:=fun k hk=>Nat.lt_of_lt_of_le hk.2 h
theorem aI.al {lo hi:Nat} {a c:World} (h:aI (Iv lo hi) a c) (W7:hi≤c.heap.size) (o:Obj):aI (Iv lo hi) a (c.alloc o):=h.alloc (ku W7) o
theorem sx {lo hi:Nat} {w w':World} (h:ay X w w') (h1:hi≤w.heap.size) (h2:∀ k,lo≤k→k<hi→¬ X k):aI (Iv lo hi) w w':=h.sameOn fun k hk=>⟨Nat.lt_of_lt_of_le hk.2 h1,h2 k hk.1 hk.2⟩
theorem aJ {S:Nat→Prop} {g n:Nat} {t:TypeId} {cs:List Value} {ks:List No} (h:aj w g t cs.toArray) (hc:aC w S ks cs) (hn:ks.length=n) (hm:n≤1000000) (hg:S g):aQ w S (.slice (some ⟨g,0,none⟩) n n) ks:=by
  subst hn;have hl:=hc.len;have:=h.row (S:=S) (n:=ks.length) (size:=5) (by simpa using hl) (by unfold maxLen;omega) hg;exact ⟨cs,by simpa using this,hc⟩
theorem bG.iv {lo hi BA yd:Nat} {n:No} {cs:List Value} (h:bG w (Iv lo hi) n cs) (h1:BA≤lo) (h2:hi≤yd):bG w (Iv BA yd) n cs:=
  h.keep (aI.refl _ _) fun k hk=>⟨Nat.le_trans h1 hk.1,Nat.lt_of_lt_of_le hk.2 h2⟩
end
/-! ### what stands, behind a step: the parser's block and those of a list are written -/
def Xs (E:Env) (l:List Nat) (k:Nat):Prop:=k=E.g∨k ∈ l
section
variable {E:Env} {w0 w w' W:World} {X Y S:Nat→Prop} {l:List Nat} {r n b lo hi BA yd:Nat} {T:TypeId} {cs:Array Value} {no:No} {cl:List Value} {v:Value} {ks:List No}
theorem UI (h:ay (fun k=>k=E.g∨eh k) w w'):ay (Xs E []) w w':=h.mono fun _ _ h=>h.elim .inl fun e=>e.elim
theorem rn (h:Below w.heap.size w w'):ay (fun k=>k=E.g∨eh k) w w':=ay.of_below h
theorem xm (h:ay (fun k=>k=E.g) w w'):ay (fun k=>k=E.g∨eh k) w w':=h.mono fun _ _ h=>.inl h
theorem nN (w:World) (t:Tk):Hd (bG w (Iv w.heap.size w.heap.size) (.mk 40 t.fr t.to t.tx []) [.int .i64 40,.int .i64 t.fr,.int .i64 t.to,.string t.tx,.slice none 0 0]):=zh (bG.mk_ (n:=.mk 40 t.fr t.to t.tx []) aQ.nil_)
theorem nZ (w:World):Hd (bG w (Iv w.heap.size w.heap.size) bo [.int .i64 7,.int .i64 0,.int .i64 0,.string ⟨#[]⟩,.slice none 0 0]):=zh (bG.mk_ (n:=bo) aQ.nil_)
theorem xg:∀ i,i<n→(i=E.g∨eh i)→Xs E l i:=fun _ _ h=>h.elim .inl fun e=>e.elim
theorem mg:∀ i,i<n→(i=E.g∨eh i)→(i=E.g∨Y i):=fun _ _ h=>h.elim .inl fun e=>e.elim
theorem ng (h:b≠E.g):¬ (b=E.g∨eh b):=fun e=>e.elim h fun e=>e.elim
theorem iv (h:r<lo∨hi≤r):¬ Iv lo hi r:=fun e=>by have h1:=e.1;have h2:=e.2;omega
theorem k2 (h:Hd (aj w b T cs)) (hw:ay (Xs E l) w w') (hg:b≠E.g) (hl:∀ k ∈ l,b≠k):Hd (aj w' b T cs):=zh (h.o.but hw fun e=>e.elim hg fun e=>hl b e rfl)
theorem k0 (h:Hd (aj w b T cs)) (hw:ay (Xs E []) w w') (hg:b≠E.g:=by omega):Hd (aj w' b T cs):=k2 h hw hg (by simp)
theorem k1 (h:Hd (aj w b T cs)) (hw:ay (Xs E [r]) w w') (hg:b≠E.g:=by omega) (hr:b≠r:=by omega):Hd (aj w' b T cs):=k2 h hw hg (by simpa using hr)
theorem jF (hw:ay (Xs E l) w w') (h1:hi≤w.heap.size) (h2:E.g<lo) (h3:∀ k ∈ l,k<lo∨hi≤k):aI (Iv lo hi) w w':=sx hw h1 fun k h4 h5 e=>by
  rcases e with e | e
  · omega
  · have:=h3 k e;omega
theorem n2 (h:Hd (bG w (Iv lo hi) no cl)) (hw:ay (Xs E l) w w') (h1:hi≤w.heap.size) (h2:E.g<lo) (h3:∀ k ∈ l,k<lo∨hi≤k):Hd (bG w' (Iv lo hi) no cl):=zh (h.o.keep (jF hw h1 h2 h3) fun _ h=>h)
theorem n0 (h:Hd (bG w (Iv lo hi) no cl)) (hw:ay (Xs E []) w w') (h1:hi≤w.heap.size:=by omega) (h2:E.g<lo:=by omega):Hd (bG w' (Iv lo hi) no cl):=n2 h hw h1 h2 (by simp)
theorem n1 (h:Hd (bG w (Iv lo hi) no cl)) (hw:ay (Xs E [r]) w w') (h1:hi≤w.heap.size:=by omega) (h2:E.g<lo:=by omega) (h3:r<lo∨hi≤r:=by omega):Hd (bG w' (Iv lo hi) no cl):=n2 h hw h1 h2 (by simpa using h3)
theorem r2 (h:Hd (aQ w (Iv lo hi) v ks)) (hw:ay (Xs E l) w w') (h1:hi≤w.heap.size) (h2:E.g<lo) (h3:∀ k ∈ l,k<lo∨hi≤k):Hd (aQ w' (Iv lo hi) v ks):=zh (h.o.keep (jF hw h1 h2 h3) fun _ h=>h)
theorem r0 (h:Hd (aQ w (Iv lo hi) v ks)) (hw:ay (Xs E []) w w') (h1:hi≤w.heap.size:=by omega) (h2:E.g<lo:=by omega):Hd (aQ w' (Iv lo hi) v ks):=r2 h hw h1 h2 (by simp)
theorem r1 (h:Hd (aQ w (Iv lo hi) v ks)) (hw:ay (Xs E [r]) w w') (h1:hi≤w.heap.size:=by omega) (h2:E.g<lo:=by omega) (h3:r<lo∨hi≤r:=by omega):Hd (aQ w' (Iv lo hi) v ks):=r2 h hw h1 h2 (by simpa using h3)
theorem b2 (h:Hd (ay (fun k=>k=E.g∨Y k) w0 w)) (hw:ay (Xs E l) w w') (h1:∀ k ∈ l,w0.heap.size≤k∨Y k):Hd (ay (fun k=>k=E.g∨Y k) w0 w'):=zh (h.o.trans hw fun k hk e=>e.elim .inl fun e=>(h1 k e).elim (fun h=>absurd hk (by omega)) .inr)
theorem b0 (h:Hd (ay (fun k=>k=E.g∨Y k) w0 w)) (hw:ay (Xs E []) w w'):Hd (ay (fun k=>k=E.g∨Y k) w0 w'):=b2 h hw (by simp)
theorem b1 (h:Hd (ay (fun k=>k=E.g∨Y k) w0 w)) (hw:ay (Xs E [r]) w w') (h1:w0.heap.size≤r):Hd (ay (fun k=>k=E.g∨Y k) w0 w'):=b2 h hw fun k hk=>.inl (by simp at hk;omega)
theorem nk (h:Hd (bG w (Iv lo hi) no cl)) (hs:aI (Iv lo hi) w W) (h1:BA≤lo) (h2:hi≤yd):bG W (Iv BA yd) no cl:=h.o.keep hs fun _ hk=>⟨Nat.le_trans h1 hk.1,Nat.lt_of_lt_of_le hk.2 h2⟩
theorem rk (h:Hd (aQ w (Iv lo hi) v ks)) (hs:aI (Iv lo hi) w W) (h1:BA≤lo) (h2:hi≤yd):aQ W (Iv BA yd) v ks:=h.o.keep hs fun _ hk=>⟨Nat.le_trans h1 hk.1,Nat.lt_of_lt_of_le hk.2 h2⟩
end
theorem aI.za {lo hi : Nat} {a c : World} (h : aI (Iv lo hi) a c) (o : Obj) (W7 : hi ≤ c.heap.size := by first|omega|simp<;>omega) : aI (Iv lo hi) a (c.alloc o) := h.al W7 o
theorem zn {W w' : World} {lo : Nat} {n : No} {A : Option Addr} {c : Nat} (h : aQ w' (kE W w') (.slice A n.ks.length c) n.ks) (hk : lo ≤ W.heap.size := by first | omega | (simp; done) | (simp; omega)) : Hd (bG w' (Iv lo w'.heap.size) n [.int .i64 n.k, .int .i64 n.fr, .int .i64 n.to, .string n.tx, .slice A n.ks.length c]) := zh (bG.mk_ (n := n) (h.keep (aI.refl _ _) fun _ h2 => ⟨Nat.le_trans hk h2.1, h2.2⟩))
theorem zm {W w' : World} {lo : Nat} {l : List No} {A : Option Addr} {c : Nat} (h : aQ w' (kE W w') (.slice A l.length c) l) (hk : lo ≤ W.heap.size := by first | omega | (simp; done) | (simp; omega)) : Hd (aQ w' (Iv lo w'.heap.size) (.slice A l.length c) l) := zh (h.keep (aI.refl _ _) fun _ h2 => ⟨Nat.le_trans hk h2.1, h2.2⟩)
theorem zf {i m n : Nat} {b b0 : Bool} (h : m ≤ ((i, b) : Ps).1 ∧ ((i, b) : Ps).1 < n ∧ ((i, b) : Ps).2 = b0) : m ≤ i ∧ b0 = b := ⟨h.1, h.2.2.symm⟩
def zc (w : World) (g o : Nat) (v0 v1 v2 v3 v4 : Value) : Prop := w.cell? ⟨g, o, none⟩ = some v0 ∧ w.cell? ⟨g, o + 1, none⟩ = some v1 ∧ w.cell? ⟨g, o + 2, none⟩ = some v2 ∧ w.cell? ⟨g, o + 3, none⟩ = some v3 ∧ w.cell? ⟨g, o + 4, none⟩ = some v4
theorem aj.ze {w : World} {g : Nat} {t : TypeId} {v0 v1 v2 v3 v4 : Value} (h : aj w g t #[v0, v1, v2, v3, v4]) : ze w g v0 v1 v2 v3 v4 := ⟨(h.cell 0).trans rfl, (h.cell 1).trans rfl, (h.cell 2).trans rfl, (h.cell 3).trans rfl, (h.cell 4).trans rfl⟩
theorem fN {E : Env} {w w1 : World} {i : Nat} {b : Bool} (h : Hd (PS E w i b)) (hb : Below w.heap.size w w1) : Hd (PS E w1 i b) := zh (h.o.below hb)
theorem dX {E : Env} {w w1 : World} {o : Obj} {i : Nat} {b : Bool} (h : Hd (PS E w i b)) (hb : Below (w.alloc o).heap.size (w.alloc o) w1) : Hd (PS E w1 i b) := zh ((h.o.alloc _).below hb)
theorem kG {E : Env} {w w1 : World} {o o2 : Obj} {i : Nat} {b : Bool} (h : Hd (PS E w i b)) (hb : Below ((w.alloc o).alloc o2).heap.size ((w.alloc o).alloc o2) w1) : Hd (PS E w1 i b) := zh (((h.o.alloc _).alloc _).below hb)
theorem nX {E : Env} {w w1 : World} (hb : Below w.heap.size w w1) : ay (fun k => k = E.g ∨ eh k) w w1 ∧ w.heap.size ≤ w1.heap.size ∧ ay (Xs E []) w w1 := ⟨rn hb, hb.size, UI (rn hb)⟩
theorem Dc {E : Env} {w w1 : World} {o : Obj} (hb : Below (w.alloc o).heap.size (w.alloc o) w1) : ay (fun k => k = E.g ∨ eh k) (w.alloc o) w1 ∧ w.heap.size + 1 ≤ w1.heap.size ∧ ay (Xs E []) w w1 := ⟨rn hb, by have h := hb.size; simp at h; omega, (zb.alloc _).trans (rn (E := E) hb) xg⟩
theorem Vw {E : Env} {w w1 : World} {o o2 : Obj} (hb : Below ((w.alloc o).alloc o2).heap.size ((w.alloc o).alloc o2) w1) : ay (fun k => k = E.g ∨ eh k) ((w.alloc o).alloc o2) w1 ∧ w.heap.size + 2 ≤ w1.heap.size ∧ ay (Xs E []) w w1 := ⟨rn hb, by have h := hb.size; simp at h; omega, ((zb.alloc _).alloc _).trans (rn (E := E) hb) xg⟩
theorem AB {E : Env} {w w1 : World} (hb : ay (fun k => k = E.g) w w1) : ay (fun k => k = E.g ∨ eh k) w w1 ∧ w.heap.size ≤ w1.heap.size ∧ ay (Xs E []) w w1 := ⟨xm hb, hb.size, UI (xm hb)⟩
theorem Gh {E : Env} {w w1 : World} {o : Obj} (hb : ay (fun k => k = E.g) (w.alloc o) w1) : ay (fun k => k = E.g ∨ eh k) (w.alloc o) w1 ∧ w.heap.size + 1 ≤ w1.heap.size ∧ ay (Xs E []) w w1 := ⟨xm hb, by have h := hb.size; simp at h; omega, (zb.alloc _).trans (xm hb) xg⟩
theorem Uy {E : Env} {w w1 : World} {o o2 : Obj} (hb : ay (fun k => k = E.g) ((w.alloc o).alloc o2) w1) : ay (fun k => k = E.g ∨ eh k) ((w.alloc o).alloc o2) w1 ∧ w.heap.size + 2 ≤ w1.heap.size ∧ ay (Xs E []) w w1 := ⟨xm hb, by have h := hb.size; simp at h; omega, ((zb.alloc _).alloc _).trans (xm hb) xg⟩
theorem ez {E : Env} {w w1 : World} (hb : ay (fun k => k = E.g ∨ eh k) w w1) : w.heap.size ≤ w1.heap.size ∧ ay (Xs E []) w w1 := ⟨hb.size, UI hb⟩
theorem cW {E : Env} {W w1 : World} {cs : Array Value} {t : TypeId} (b : Nat) (hx : ay (fun k => k = E.g ∨ eh k) (W.alloc (.cells cs t)) w1) (hb : b = W.heap.size := by simp) (hn : b ≠ E.g := by omega) : Hd (aj w1 b t cs) := zh ((aj.new' hb).but hx (ng hn))
theorem fJ {E : Env} {W w1 : World} {cs : Array Value} {t : TypeId} {o : Obj} (b : Nat) (hx : ay (fun k => k = E.g ∨ eh k) ((W.alloc (.cells cs t)).alloc o) w1) (hb : b = W.heap.size := by simp) (hn : b ≠ E.g := by omega) : Hd (aj w1 b t cs) := zh (((aj.new' hb).alloc _).but hx (ng hn))
theorem M3 {E : Env} {W w1 : World} {cs : Array Value} {t : TypeId} {o o2 : Obj} (b : Nat) (hx : ay (fun k => k = E.g ∨ eh k) (((W.alloc (.cells cs t)).alloc o).alloc o2) w1) (hb : b = W.heap.size := by simp) (hn : b ≠ E.g := by omega) : Hd (aj w1 b t cs) := zh ((((aj.new' hb).alloc _).alloc _).but hx (ng hn))
theorem zv {E : Env} {lo hi BA yd r : Nat} {w : World} {no : No} {cl : List Value} {u0 u1 u2 u3 u4 : Value} (h : Hd (bG w (Iv lo hi) no cl)) (hr : r < lo ∨ hi ≤ r := by omega) (h1 : BA ≤ lo := by omega) (h2 : hi ≤ yd := by first | omega | simp <;> omega) : bG (((((w.setCell ⟨r, 0, none⟩ u0).setCell ⟨r, 1, none⟩ u1).setCell ⟨r, 2, none⟩ u2).setCell ⟨r, 3, none⟩ u3).setCell ⟨r, 4, none⟩ u4) (Iv BA yd) no cl := nk h (zr.set5 (iv hr) _ _ _ _ _) h1 h2
theorem zw {lo hi BA yd r : Nat} {w : World} {v : Value} {ks : List No} {u0 u1 u2 u3 u4 : Value} (h : Hd (aQ w (Iv lo hi) v ks)) (hr : r < lo ∨ hi ≤ r := by omega) (h1 : BA ≤ lo := by omega) (h2 : hi ≤ yd := by first | omega | simp <;> omega) : aQ (((((w.setCell ⟨r, 0, none⟩ u0).setCell ⟨r, 1, none⟩ u1).setCell ⟨r, 2, none⟩ u2).setCell ⟨r, 3, none⟩ u3).setCell ⟨r, 4, none⟩ u4) (Iv BA yd) v ks := rk h (zr.set5 (iv hr) _ _ _ _ _) h1 h2
theorem aj.p5 {w : World} {g : Nat} {t : TypeId} {c0 c1 c2 c3 c4 u0 u1 u2 u3 u4 : Value} (h : aj w g t #[c0, c1, c2, c3, c4]) : aj (((((w.setCell ⟨g, 0, none⟩ u0).setCell ⟨g, 1, none⟩ u1).setCell ⟨g, 2, none⟩ u2).setCell ⟨g, 3, none⟩ u3).setCell ⟨g, 4, none⟩ u4) g t #[u0, u1, u2, u3, u4] := h.put5 _ _ _ _ _
theorem aj.f5 {w : World} {g r : Nat} {t : TypeId} {cs : Array Value} {u0 u1 u2 u3 u4 : Value} (h : aj w g t cs) (hr : g ≠ r := by omega) : aj (((((w.setCell ⟨r, 0, none⟩ u0).setCell ⟨r, 1, none⟩ u1).setCell ⟨r, 2, none⟩ u2).setCell ⟨r, 3, none⟩ u3).setCell ⟨r, 4, none⟩ u4) g t cs := h.far5 hr _ _ _ _ _
theorem aj.c1 {w : World} {g : Nat} {t : TypeId} {c : Value} (h : aj w g t #[c]) : w.cell? ⟨g, 0, none⟩ = some c ∧ (∀ i, w.frozen? ⟨g, i, none⟩ = false) ∧ g < w.heap.size := ⟨(h.cell 0).trans rfl, h.frozen, h.lt⟩
theorem PS.f6 {E : Env} {w : World} {b : Bool} {i r : Nat} {u0 u1 u2 u3 u4 : Value} (h : PS E w i b) (h1 : r ≠ E.g := by omega) (h2 : r ≠ E.a := by omega) : PS E (((((w.setCell ⟨r, 0, none⟩ u0).setCell ⟨r, 1, none⟩ u1).setCell ⟨r, 2, none⟩ u2).setCell ⟨r, 3, none⟩ u3).setCell ⟨r, 4, none⟩ u4) i b := h.far5 h1 h2 _ _ _ _ _
theorem ay.s5 {X : Nat → Prop} {a c : World} {r : Nat} {u0 u1 u2 u3 u4 : Value} (h : ay X a c) (hr : a.heap.size ≤ r := by omega) : ay X a (((((c.setCell ⟨r, 0, none⟩ u0).setCell ⟨r, 1, none⟩ u1).setCell ⟨r, 2, none⟩ u2).setCell ⟨r, 3, none⟩ u3).setCell ⟨r, 4, none⟩ u4) := h.set5 (.inl hr) _ _ _ _ _
theorem mr {P : Program} {f : FuncId} {xs : Array Value} {E : Env} {w : World} {v : Ending} {R : Ending → World → Prop} (h : Calls P f xs w fun e w' => e = v ∧ Below w.heap.size w w') (k : ∀ w', Below w.heap.size w w' → ay (fun k => k = E.g ∨ eh k) w w' → w.heap.size ≤ w'.heap.size → ay (Xs E []) w w' → R v w') : Calls P f xs w R := h.mono fun _ w' h => by obtain ⟨rfl, hb⟩ := h; obtain ⟨h1, h2, h3⟩ := nX (E := E) hb; exact k w' hb h1 h2 h3
theorem eO {P : Program} {f : FuncId} {xs : Array Value} {E : Env} {w : World} {o : Obj} {v : Ending} {R : Ending → World → Prop} (h : Calls P f xs (w.alloc o) fun e w' => e = v ∧ Below (w.alloc o).heap.size (w.alloc o) w') (k : ∀ w', Below (w.alloc o).heap.size (w.alloc o) w' → ay (fun k => k = E.g ∨ eh k) (w.alloc o) w' → w.heap.size + 1 ≤ w'.heap.size → ay (Xs E []) w w' → R v w') : Calls P f xs (w.alloc o) R := h.mono fun _ w' h => by obtain ⟨rfl, hb⟩ := h; obtain ⟨h1, h2, h3⟩ := Dc (E := E) hb; exact k w' hb h1 h2 h3
theorem kT {P : Program} {f : FuncId} {xs : Array Value} {E : Env} {w : World} {o o2 : Obj} {v : Ending} {R : Ending → World → Prop} (h : Calls P f xs ((w.alloc o).alloc o2) fun e w' => e = v ∧ Below ((w.alloc o).alloc o2).heap.size ((w.alloc o).alloc o2) w') (k : ∀ w', Below ((w.alloc o).alloc o2).heap.size ((w.alloc o).alloc o2) w' → ay (fun k => k = E.g ∨ eh k) ((w.alloc o).alloc o2) w' → w.heap.size + 2 ≤ w'.heap.size → ay (Xs E []) w w' → R v w') : Calls P f xs ((w.alloc o).alloc o2) R := h.mono fun _ w' h => by obtain ⟨rfl, hb⟩ := h; obtain ⟨h1, h2, h3⟩ := Vw (E := E) hb; exact k w' hb h1 h2 h3
theorem xP {P : Program} {f : FuncId} {xs : Array Value} {E : Env} {w : World} {v : Ending} {Y : World → Prop} {R : Ending → World → Prop} (h : Calls P f xs w fun e w' => e = v ∧ Y w' ∧ ay (fun k => k = E.g) w w') (k : ∀ w', Y w' → ay (fun k => k = E.g) w w' → ay (fun k => k = E.g ∨ eh k) w w' → w.heap.size ≤ w'.heap.size → ay (Xs E []) w w' → R v w') : Calls P f xs w R := h.mono fun _ w' h => by obtain ⟨rfl, hp, hb⟩ := h; obtain ⟨h1, h2, h3⟩ := AB (E := E) hb; exact k w' hp hb h1 h2 h3
theorem qd {P : Program} {f : FuncId} {xs : Array Value} {E : Env} {w : World} {o : Obj} {v : Ending} {Y : World → Prop} {R : Ending → World → Prop} (h : Calls P f xs (w.alloc o) fun e w' => e = v ∧ Y w' ∧ ay (fun k => k = E.g) (w.alloc o) w') (k : ∀ w', Y w' → ay (fun k => k = E.g) (w.alloc o) w' → ay (fun k => k = E.g ∨ eh k) (w.alloc o) w' → w.heap.size + 1 ≤ w'.heap.size → ay (Xs E []) w w' → R v w') : Calls P f xs (w.alloc o) R := h.mono fun _ w' h => by obtain ⟨rfl, hp, hb⟩ := h; obtain ⟨h1, h2, h3⟩ := Gh (E := E) hb; exact k w' hp hb h1 h2 h3
theorem K4 {P : Program} {f : FuncId} {xs : Array Value} {E : Env} {w : World} {o o2 : Obj} {v : Ending} {Y : World → Prop} {R : Ending → World → Prop} (h : Calls P f xs ((w.alloc o).alloc o2) fun e w' => e = v ∧ Y w' ∧ ay (fun k => k = E.g) ((w.alloc o).alloc o2) w') (k : ∀ w', Y w' → ay (fun k => k = E.g) ((w.alloc o).alloc o2) w' → ay (fun k => k = E.g ∨ eh k) ((w.alloc o).alloc o2) w' → w.heap.size + 2 ≤ w'.heap.size → ay (Xs E []) w w' → R v w') : Calls P f xs ((w.alloc o).alloc o2) R := h.mono fun _ w' h => by obtain ⟨rfl, hp, hb⟩ := h; obtain ⟨h1, h2, h3⟩ := Uy (E := E) hb; exact k w' hp hb h1 h2 h3
theorem qG (l : List ByteArray) {E : Env} {w : World} {i : Nat} {b : Bool} (hE : Hd (eH E)) (h : Hd (PS E w i b)) (hq : oneOf (E.tok i) l = true) (hl : l.length ≤ 100 := by simp) : Calls prog 67 #[(.pointer (some ⟨E.g, 0, none⟩)), .slice (some ⟨w.heap.size, 0, none⟩) l.length l.length] (w.alloc (.cells (l.map Value.string).toArray 9)) fun e w' => e = .returned (.bool true) ∧ PS E w' (i + 1) b ∧ ay (fun k => k = E.g) (w.alloc (.cells (l.map Value.string).toArray 9)) w' := mt hE.o (h.o.alloc _) (aW (n := w.heap.size) l rfl hl) (ba rfl) hq
theorem qH (l : List ByteArray) {E : Env} {w : World} {i : Nat} {b : Bool} (hE : Hd (eH E)) (h : Hd (PS E w i b)) (hq : oneOf (E.tok i) l = false) (hl : l.length ≤ 100 := by simp) : Calls prog 67 #[(.pointer (some ⟨E.g, 0, none⟩)), .slice (some ⟨w.heap.size, 0, none⟩) l.length l.length] (w.alloc (.cells (l.map Value.string).toArray 9)) fun e w' => e = .returned (.bool false) ∧ Below (w.alloc (.cells (l.map Value.string).toArray 9)).heap.size (w.alloc (.cells (l.map Value.string).toArray 9)) w' := o3 hE.o (h.o.alloc _) (aW (n := w.heap.size) l rfl hl) (ba rfl) hq
theorem K2 (l : List ByteArray) {E : Env} {w : World} {o : Obj} {i : Nat} {b : Bool} (hE : Hd (eH E)) (h : Hd (PS E w i b)) (hq : oneOf (E.tok i) l = true) (hl : l.length ≤ 100 := by simp) : Calls prog 67 #[(.pointer (some ⟨E.g, 0, none⟩)), .slice (some ⟨w.heap.size + 1, 0, none⟩) l.length l.length] ((w.alloc o).alloc (.cells (l.map Value.string).toArray 9)) fun e w' => e = .returned (.bool true) ∧ PS E w' (i + 1) b ∧ ay (fun k => k = E.g) ((w.alloc o).alloc (.cells (l.map Value.string).toArray 9)) w' := mt hE.o ((h.o.alloc _).alloc _) (aW (n := w.heap.size + 1) l (by simp) hl) (ba (by simp)) hq
theorem K3 (l : List ByteArray) {E : Env} {w : World} {o : Obj} {i : Nat} {b : Bool} (hE : Hd (eH E)) (h : Hd (PS E w i b)) (hq : oneOf (E.tok i) l = false) (hl : l.length ≤ 100 := by simp) : Calls prog 67 #[(.pointer (some ⟨E.g, 0, none⟩)), .slice (some ⟨w.heap.size + 1, 0, none⟩) l.length l.length] ((w.alloc o).alloc (.cells (l.map Value.string).toArray 9)) fun e w' => e = .returned (.bool false) ∧ Below ((w.alloc o).alloc (.cells (l.map Value.string).toArray 9)).heap.size ((w.alloc o).alloc (.cells (l.map Value.string).toArray 9)) w' := o3 hE.o ((h.o.alloc _).alloc _) (aW (n := w.heap.size + 1) l (by simp) hl) (ba (by simp)) hq
theorem dJ {E : Env} {w w' : World} {b1 b2 : Nat} {T1 T2 : TypeId} {c1 c2 : Array Value} (h1 : Hd (aj w b1 T1 c1)) (h2 : Hd (aj w b2 T2 c2)) (hw : ay (Xs E []) w w') (g1 : b1 ≠ E.g := by omega) (g2 : b2 ≠ E.g := by omega) : Hd (aj w' b1 T1 c1) ∧ Hd (aj w' b2 T2 c2) := ⟨k0 h1 hw g1, k0 h2 hw g2⟩
theorem fq {E : Env} {w w' : World} {b1 b2 b3 : Nat} {T1 T2 T3 : TypeId} {c1 c2 c3 : Array Value} (h1 : Hd (aj w b1 T1 c1)) (h2 : Hd (aj w b2 T2 c2)) (h3 : Hd (aj w b3 T3 c3)) (hw : ay (Xs E []) w w') (g1 : b1 ≠ E.g := by omega) (g2 : b2 ≠ E.g := by omega) (g3 : b3 ≠ E.g := by omega) : Hd (aj w' b1 T1 c1) ∧ Hd (aj w' b2 T2 c2) ∧ Hd (aj w' b3 T3 c3) := ⟨k0 h1 hw g1, k0 h2 hw g2, k0 h3 hw g3⟩
theorem jd {E : Env} {w w' : World} {b1 b2 b3 b4 : Nat} {T1 T2 T3 T4 : TypeId} {c1 c2 c3 c4 : Array Value} (h1 : Hd (aj w b1 T1 c1)) (h2 : Hd (aj w b2 T2 c2)) (h3 : Hd (aj w b3 T3 c3)) (h4 : Hd (aj w b4 T4 c4)) (hw : ay (Xs E []) w w') (g1 : b1 ≠ E.g := by omega) (g2 : b2 ≠ E.g := by omega) (g3 : b3 ≠ E.g := by omega) (g4 : b4 ≠ E.g := by omega) : Hd (aj w' b1 T1 c1) ∧ Hd (aj w' b2 T2 c2) ∧ Hd (aj w' b3 T3 c3) ∧ Hd (aj w' b4 T4 c4) := ⟨k0 h1 hw g1, k0 h2 hw g2, k0 h3 hw g3, k0 h4 hw g4⟩
theorem uD {E : Env} {w w' : World} {b1 b2 b3 b4 b5 : Nat} {T1 T2 T3 T4 T5 : TypeId} {c1 c2 c3 c4 c5 : Array Value} (h1 : Hd (aj w b1 T1 c1)) (h2 : Hd (aj w b2 T2 c2)) (h3 : Hd (aj w b3 T3 c3)) (h4 : Hd (aj w b4 T4 c4)) (h5 : Hd (aj w b5 T5 c5)) (hw : ay (Xs E []) w w') (g1 : b1 ≠ E.g := by omega) (g2 : b2 ≠ E.g := by omega) (g3 : b3 ≠ E.g := by omega) (g4 : b4 ≠ E.g := by omega) (g5 : b5 ≠ E.g := by omega) : Hd (aj w' b1 T1 c1) ∧ Hd (aj w' b2 T2 c2) ∧ Hd (aj w' b3 T3 c3) ∧ Hd (aj w' b4 T4 c4) ∧ Hd (aj w' b5 T5 c5) := ⟨k0 h1 hw g1, k0 h2 hw g2, k0 h3 hw g3, k0 h4 hw g4, k0 h5 hw g5⟩
theorem GJ {E : Env} {w w' : World} {b1 b2 b3 b4 b5 b6 : Nat} {T1 T2 T3 T4 T5 T6 : TypeId} {c1 c2 c3 c4 c5 c6 : Array Value} (h1 : Hd (aj w b1 T1 c1)) (h2 : Hd (aj w b2 T2 c2)) (h3 : Hd (aj w b3 T3 c3)) (h4 : Hd (aj w b4 T4 c4)) (h5 : Hd (aj w b5 T5 c5)) (h6 : Hd (aj w b6 T6 c6)) (hw : ay (Xs E []) w w') (g1 : b1 ≠ E.g := by omega) (g2 : b2 ≠ E.g := by omega) (g3 : b3 ≠ E.g := by omega) (g4 : b4 ≠ E.g := by omega) (g5 : b5 ≠ E.g := by omega) (g6 : b6 ≠ E.g := by omega) : Hd (aj w' b1 T1 c1) ∧ Hd (aj w' b2 T2 c2) ∧ Hd (aj w' b3 T3 c3) ∧ Hd (aj w' b4 T4 c4) ∧ Hd (aj w' b5 T5 c5) ∧ Hd (aj w' b6 T6 c6) := ⟨k0 h1 hw g1, k0 h2 hw g2, k0 h3 hw g3, k0 h4 hw g4, k0 h5 hw g5, k0 h6 hw g6⟩
theorem k07 {E : Env} {w w' : World} {b1 b2 b3 b4 b5 b6 b7 : Nat} {T1 T2 T3 T4 T5 T6 T7 : TypeId} {c1 c2 c3 c4 c5 c6 c7 : Array Value} (h1 : Hd (aj w b1 T1 c1)) (h2 : Hd (aj w b2 T2 c2)) (h3 : Hd (aj w b3 T3 c3)) (h4 : Hd (aj w b4 T4 c4)) (h5 : Hd (aj w b5 T5 c5)) (h6 : Hd (aj w b6 T6 c6)) (h7 : Hd (aj w b7 T7 c7)) (hw : ay (Xs E []) w w') (g1 : b1 ≠ E.g := by omega) (g2 : b2 ≠ E.g := by omega) (g3 : b3 ≠ E.g := by omega) (g4 : b4 ≠ E.g := by omega) (g5 : b5 ≠ E.g := by omega) (g6 : b6 ≠ E.g := by omega) (g7 : b7 ≠ E.g := by omega) : Hd (aj w' b1 T1 c1) ∧ Hd (aj w' b2 T2 c2) ∧ Hd (aj w' b3 T3 c3) ∧ Hd (aj w' b4 T4 c4) ∧ Hd (aj w' b5 T5 c5) ∧ Hd (aj w' b6 T6 c6) ∧ Hd (aj w' b7 T7 c7) := ⟨k0 h1 hw g1, k0 h2 hw g2, k0 h3 hw g3, k0 h4 hw g4, k0 h5 hw g5, k0 h6 hw g6, k0 h7 hw g7⟩
theorem k08 {E : Env} {w w' : World} {b1 b2 b3 b4 b5 b6 b7 b8 : Nat} {T1 T2 T3 T4 T5 T6 T7 T8 : TypeId} {c1 c2 c3 c4 c5 c6 c7 c8 : Array Value} (h1 : Hd (aj w b1 T1 c1)) (h2 : Hd (aj w b2 T2 c2)) (h3 : Hd (aj w b3 T3 c3)) (h4 : Hd (aj w b4 T4 c4)) (h5 : Hd (aj w b5 T5 c5)) (h6 : Hd (aj w b6 T6 c6)) (h7 : Hd (aj w b7 T7 c7)) (h8 : Hd (aj w b8 T8 c8)) (hw : ay (Xs E []) w w') (g1 : b1 ≠ E.g := by omega) (g2 : b2 ≠ E.g := by omega) (g3 : b3 ≠ E.g := by omega) (g4 : b4 ≠ E.g := by omega) (g5 : b5 ≠ E.g := by omega) (g6 : b6 ≠ E.g := by omega) (g7 : b7 ≠ E.g := by omega) (g8 : b8 ≠ E.g := by omega) : Hd (aj w' b1 T1 c1) ∧ Hd (aj w' b2 T2 c2) ∧ Hd (aj w' b3 T3 c3) ∧ Hd (aj w' b4 T4 c4) ∧ Hd (aj w' b5 T5 c5) ∧ Hd (aj w' b6 T6 c6) ∧ Hd (aj w' b7 T7 c7) ∧ Hd (aj w' b8 T8 c8) := ⟨k0 h1 hw g1, k0 h2 hw g2, k0 h3 hw g3, k0 h4 hw g4, k0 h5 hw g5, k0 h6 hw g6, k0 h7 hw g7, k0 h8 hw g8⟩
def d8 (n:Nat):Bool:=decide (97≤n∧n≤122∨65≤n∧n≤90∨n=95)
def gd (n:Nat):Bool:=decide (48≤n∧n≤57)
def ly (c:UInt8):Bool:=d8 c.toNat
def dZ (c:UInt8):Bool:=gd c.toNat
def mw (c:UInt8):Bool:=ly c || dZ c
def dq:List UInt8→Nat
  | []=>0
  | c :: t=>if ly c=true then 1+(t.takeWhile mw).length else 0
theorem oZ {p:UInt8→Bool}:∀ {l:List UInt8} {m:Nat} (_:m≤(l.takeWhile p).length) (hm:m<l.length),(p l[m]=true→m+1≤(l.takeWhile p).length)∧(p l[m]=false→(l.takeWhile p).length=m)
  | c :: t,m,h,hm=>by
    rw [List.takeWhile_cons] at h ⊢;by_cases hc:p c=true
    · rw [if_pos hc] at h ⊢
      cases m with
      | zero=>simp [hc]
      | succ m=>
        have:=oZ (p:=p) (l:=t) (m:=m) (by simpa using h) (by simpa using hm)
        simpa using this
    · rw [if_neg hc] at h ⊢
      (obtain rfl:m=0:=by simpa using h);simp [hc]
theorem AY {p:UInt8→Bool} {l:List UInt8}:(l.takeWhile p).length≤l.length:=(List.takeWhile_sublist _).length_le
theorem gE (c:UInt8) (t:List UInt8):dq (c :: t)=if ly c=true then 1+(t.takeWhile mw).length else 0:=rfl
theorem kZ:∀ {l:List UInt8},dq l≤l.length
  | []=>by simp [dq]
  | c :: t=>by
    rw [gE];have:=AY (p:=mw) (l:=t);split <;> simp <;> omega
theorem qn {l:List UInt8} {n:Nat} (h:n≤dq l) (hn:n<l.length):((ly l[n]=true∨0<n∧dZ l[n]=true)→n+1≤dq l)∧(ly l[n]=false→(0<n→dZ l[n]=false)→dq l=n):=by
  cases l with
  | nil=>simp at hn
  | cons c t=>
    rw [gE] at h ⊢;by_cases hc:ly c=true
    · rw [if_pos hc] at h ⊢
      cases n with
      | zero=>simp [hc]
      | succ m=>
        have:=oZ (p:=mw) (l:=t) (m:=m) (by omega) (by simpa using hn);simp only [ch];refine ⟨fun h1=>?_,fun h1 h2=>?_⟩
        · have h3:=this.1 (by unfold mw;rcases h1 with h1 | ⟨-,h1⟩ <;> simp [h1])
          omega
        · have h3:=this.2 (by unfold mw;simp [h1,h2 (by omega)])
          omega
    · rw [if_neg hc] at h ⊢
      (obtain rfl:n=0:=by omega);simp [hc]
def mx (l:List ByteArray) (s:ByteArray):Bool:=l.any fun x=>decide (s=x)
theorem eo {l:List ByteArray} {s:ByteArray} (h:mx l s=true):s ∈ l:=by
  obtain ⟨x,hx,he⟩:=List.any_eq_true.1 h;rw [of_decide_eq_true he];exact hx
theorem ai {l:List ByteArray} {s:ByteArray} (h:mx l s=false) {x:ByteArray} (hx:x ∈ l):s≠x:=fun e=>by
  have:mx l s=true:=List.any_eq_true.2 ⟨x,hx,decide_eq_true e⟩;rw [h] at this;cases this
theorem bq {s:ByteArray} {l:List UInt8} (h:s≠⟨l.toArray⟩):(s.toList == l)=false:=by
  rw [beq_eq_false_iff_ne];intro e;apply h;rw [Lib.toList_data] at e;cases s;simp at e;subst e;simp
def bA:List ByteArray:=[⟨#[98,114,101,97,107]⟩,⟨#[99,97,115,101]⟩,⟨#[99,104,97,110]⟩,⟨#[99,111,110,115,116]⟩,⟨#[99,111,110,116,105,110,117,101]⟩,⟨#[100,101,102,97,117,108,116]⟩,⟨#[100,101,102,101,114]⟩,⟨#[101,108,115,101]⟩,⟨#[102,97,108,108,116,104,114,111,117,103,104]⟩,⟨#[102,111,114]⟩,⟨#[102,117,110,99]⟩,⟨#[103,111]⟩,⟨#[103,111,116,111]⟩,⟨#[105,102]⟩,⟨#[105,109,112,111,114,116]⟩,⟨#[105,110,116,101,114,102,97,99,101]⟩,⟨#[109,97,112]⟩,⟨#[112,97,99,107,97,103,101]⟩,⟨#[114,97,110,103,101]⟩,⟨#[114,101,116,117,114,110]⟩,⟨#[115,101,108,101,99,116]⟩,⟨#[115,116,114,117,99,116]⟩,⟨#[115,119,105,116,99,104]⟩,⟨#[116,121,112,101]⟩,⟨#[118,97,114]⟩]
def j7 (s:ByteArray):Bool:=mx bA s
def ec:List ByteArray:=[⟨#[38,38]⟩,⟨#[124,124]⟩,⟨#[61,61]⟩,⟨#[33,61]⟩,⟨#[60,61]⟩,⟨#[62,61]⟩,⟨#[58,61]⟩,⟨#[43,61]⟩,⟨#[45,61]⟩,⟨#[42,61]⟩,⟨#[47,61]⟩,⟨#[37,61]⟩,⟨#[43,43]⟩,⟨#[45,45]⟩,⟨#[60,45]⟩]
def kY:List UInt8:=[43,45,42,47,37,38,33,61,60,62,40,41,91,93,123,125,44,46,58,124]
def mF (t:Tk):Bool:=decide (t.k=1) || decide (t.k=2) || decide (t.k=3) || (decide (t.k=4) && mx [⟨#[98,114,101,97,107]⟩,⟨#[99,111,110,116,105,110,117,101]⟩,⟨#[114,101,116,117,114,110]⟩] t.tx) || (decide (t.k=5) && mx [⟨#[43,43]⟩,⟨#[45,45]⟩,⟨#[41]⟩,⟨#[93]⟩,⟨#[125]⟩] t.tx)
def bB (p:Int) (l:List Tk):List Tk:=match l.getLast? with
  | none=>l
  | some t=>if mF t=true then l ++ [⟨6,p,p,⟨#[10]⟩⟩] else l
def ce (s:ByteArray):Nat:=
  if Lib.hasPrefix s.data.toList [46,46,46]=true then 3 else if mx ec (s.extract 0 2)=true then 2
  else if 0≤Lib.indexByte kY (s.data.toList.headD 0) then 1 else 0
set_option maxHeartbeats 1000000 in
theorem jc {n:Nat} {w:World}:Calls prog 144 #[.int .u8 n] w fun e w'=>e = .returned (.bool (d8 n))∧w'=w:=by
  obtain ⟨r,hr⟩:∃ r,d8 n=r:=⟨_,rfl⟩;rw [hr];have HR:=zh hr;clear hr;go_enter func144,ntmps144;go_wp2_with fail
  all_goals
    go_ret;refine ⟨?_,rfl⟩;rw [← HR.o];refine congrArg (fun b=>Ending.returned (.bool b)) (Bool.eq_iff_iff.2 ?_);simp [d8];try omega
theorem lM {n:Nat} {w:World}:Calls prog 113 #[.int .u8 n] w fun e w'=>e = .returned (.bool (gd n))∧w'=w:=by
  obtain ⟨r,hr⟩:∃ r,gd n=r:=⟨_,rfl⟩;rw [hr];have HR:=zh hr;clear hr;go_enter func113,ntmps113;go_wp2_with fail
  all_goals
    go_ret;refine ⟨?_,rfl⟩;rw [← HR.o];refine congrArg (fun b=>Ending.returned (.bool b)) (Bool.eq_iff_iff.2 ?_);simp [gd];try omega
set_option maxHeartbeats 2000000 in
theorem DO {s:ByteArray} {w:World} (hs:s.size≤140737488355328):Calls prog 106 #[.string s] w fun e w'=>e = .returned (.int .i64 (dq s.data.toList))∧w'=w:=by
  (have uE:(s.size:Int)≤140737488355328:=by omega);go_enter func106,ntmps106;go_wp2_with fail
  go_loop [3] (fun i=>∃ n:Nat,n≤dq s.data.toList∧i = .int .i64 n) (fun i=>s.size - (intOf i).toNat)
  case atStart=>exact ⟨0,by omega,rfl⟩
  case round=>
    obtain ⟨n,hn,rfl⟩:=hrel;have yb:=kZ (l:=s.data.toList);(have je:s.data.toList.length=s.size:=by rw [Array.length_toList];rfl);rw [je] at yb;by_cases fs:n<s.size
    · have wM:=qn hn (by rw [je];exact fs)
      (have hb:s.data.toList[n]'(by rw [je];exact fs)=s[n]:=by rw [Array.getElem_toList];rfl);rw [hb] at wM;obtain ⟨c,hc⟩:∃ c,s[n]=c:=⟨_,rfl⟩;rw [hc] at wM;have fM:=zh wM;have HN:=zh hn;have HC:=zh hc;clear wM hn hb yb;go_wp2_with fail;refine jc.mono ?_;rintro e w1 ⟨rfl,hw⟩;subst w1;by_cases hl:d8 c.toNat=true
      · rw [hl]
        go_wp2_with fail
        go_round
        case rel=>exact ⟨n+1,fM.o.1 (.inl hl),rfl⟩
        case measure=>simp [intOf];omega
      · rw [Bool.eq_false_iff.2 hl]
        have HL:=zh hl;clear hl;by_cases h0:n=0
        · subst h0
          go_wp2_with fail;go_ret;exact ⟨by rw [fM.o.2 (Bool.eq_false_iff.2 HL.o) (by omega)];rfl,rfl⟩
        · have h0':0<n:=by omega
          go_wp2_with fail;refine lM.mono ?_;rintro e w1 ⟨rfl,hw⟩;subst w1;by_cases hd:gd c.toNat=true
          · rw [hd]
            go_wp2_with fail
            go_round
            case rel=>exact ⟨n+1,fM.o.1 (.inr ⟨h0',hd⟩),rfl⟩
            case measure=>simp [intOf];omega
          · rw [Bool.eq_false_iff.2 hd]
            have HD:=zh hd;clear hd;go_wp2_with fail;go_ret;exact ⟨by rw [fM.o.2 (Bool.eq_false_iff.2 HL.o) (fun _=>Bool.eq_false_iff.2 HD.o)];rfl,rfl⟩
    · have HN:Hd (dq s.data.toList=n):=zh (by omega)
      go_wp2_with fail;go_ret;exact ⟨by rw [HN.o];rfl,rfl⟩
set_option maxRecDepth 100000
set_option maxHeartbeats 2000000
section
variable {E:Env} {w:World} {i:Nat} {b:Bool}
theorem bG.row_ {S:Nat→Prop} {n:No} {c0 c1 c2 c3 v:Value} (h:bG w S n [c0,c1,c2,c3,v]):aQ w S v n.ks:=by
  obtain ⟨k,fr,Fq,tx,ks⟩:=n;simp only [bG] at h;obtain ⟨vk,xs,e,a,b⟩:=h;simp only [List.cons.injEq,and_true] at e;obtain ⟨-,-,-,-,rfl⟩:=e;exact ⟨xs,a,b⟩
theorem iX (hE:eH E) {r:Except Int (No×Ps)} (hr:dk E.ts (i,b)=some r) (h:PS E w i b):Calls prog 100 #[(.pointer (some ⟨E.g,0,none⟩))] w (cV E eh w (lp w) r):=by
  have fU:=h.glt;have ic:=h.lt;have iS:=hE.len;have eY:=h.ilt;have HP:=zh h;have HE:=zh hE;have cT:Hd (ay (fun k=>gX E k) w w):=zh zb;clear h hE;have iM:=aO;have iT:=aU;have jf:=aT;have iL:=aS;go_enter func100,ntmps100;unfold dk at hr;go_wp2_with fail;by_cases hq:(E.tok i).k=1
  case neg=>
   replace hr:=bY hr hq;subst hr;refine (dV HE.o (HP.o.alloc _) hq).mono ?_;rintro e wz ⟨rfl,hb⟩;go_wp2_with fail;exact ⟨rfl,(cT.o.alloc _).then_ hb,rfl⟩
  case pos=>
   replace hr:=bX hr hq;refine qd (dn HE.o (HP.o.alloc _) hq) ?_;intro w1 hp hb hx et hw;have cM:=cW w.heap.size hx;have bp:=zh hp;have a7:=b0 cT hw;clear hw hb hx hp;have wR:=nN w1 (E.tok i);clear hq;go_wp2_with fail;by_cases hq:oneOf (E.tok (i+1)) [⟨#[46]⟩]=true
   ·
    replace hr:=aM hr hq;(try rw [if_pos rfl] at hr);refine K4 (K2 [⟨#[46]⟩] HE bp hq) ?_;intro w2 hp hb hx ep hw;have bO:=k0 cM hw;have sj:=fJ w1.heap.size hx;have kS:=n0 wR hw;have bn:=zh hp;have aE:=b0 a7 hw;clear cM wR bp a7 hw hb hx hp;go_wp2_with fail;by_cases hq:(E.tok (i+1+1)).k=1
    case neg=>
     replace hr:=bY hr hq;subst hr;refine (dV HE.o bn.o hq).mono ?_;rintro e wz ⟨rfl,hb⟩;go_wp2_with fail;exact ⟨rfl,aE.o.then_ hb,rfl⟩
    case pos=>
     replace hr:=bX hr hq;refine xP (dn HE.o bn.o hq) ?_;intro w3 hp hb hx fK hw;obtain ⟨cC,pD⟩:=dJ bO sj hw;have nR:=n0 kS hw;have bD:=zh hp;have be:=b0 aE hw;clear bO sj kS bn aE hw hb hx hp;have Td:=nN w3 (E.tok (i+1+1));clear hq;obtain ⟨jB,jA,jz,jy,jx,jw,ju⟩:=pD.o.cells5;obtain ⟨di,dh,de,dd,dc,db,da⟩:=cC.o.cells5;go_wp2_with fail;refine kT (E:=E) (ak HE.o ((bD.o.alloc _).alloc _) (by omega)) ?_;intro w4 hb hx iV hw;obtain ⟨cS,mq⟩:=dJ cC pD hw;have Km4:=fJ w3.heap.size hx;have KE:=cW (w3.heap.size+1) hx;have lw:=n0 nR hw;have XQ:=n0 Td hw;have bM:=kG bD hb;have bu:=b0 be hw;clear jB jA jz jy jx jw ju di dh de dd dc db da cC pD nR Td bD be hw hb hx;obtain ⟨di,dh,de,dd,dc,db,da⟩:=cS.o.cells5;go_wp2_with fail;obtain rfl:=a6 hr;exact am (r:=w.heap.size) results100 (by rfl) cS.o.p5 (by rfl) ⟨bu.o.s5,bM.o.f6,_,rfl,_,_,rfl,aJ (n:=2) KE.o.f5 (aC.cons_ (zv (E:=E) lw) (aC.one (zv (E:=E) XQ))) rfl (by decide) (⟨by omega,by simp <;> omega⟩)⟩
   ·
    replace hq:=Bool.eq_false_iff.2 hq;replace hr:=aN hr hq;(try rw [if_neg Bool.false_ne_true] at hr);refine kT (E:=E) (K3 [⟨#[46]⟩] HE bp hq) ?_;intro w2 hb hx ep hw;have bO:=k0 cM hw;have sj:=fJ w1.heap.size hx;have kS:=n0 wR hw;have bn:=kG bp hb;have aE:=b0 a7 hw;clear cM wR bp a7 hw hb hx;obtain ⟨jB,jA,jz,jy,jx,jw,ju⟩:=sj.o.cells5;obtain ⟨di,dh,de,dd,dc,db,da⟩:=bO.o.cells5;go_wp2_with fail;obtain rfl:=ar hr;exact am (r:=w.heap.size) results100 (by rfl) bO.o.p5 (by rfl) ⟨aE.o.s5,bn.o.f6,_,rfl,_,_,rfl,(zv (E:=E) kS).row_⟩
end
set_option maxRecDepth 100000
set_option maxHeartbeats 2000000
section
variable {E:Env} {w:World} {i:Nat} {b:Bool}
structure One {σ:Type} (E:Env) (X:Nat→Prop) (I:σ→World→Prop) (one:σ→PM (No×σ)) (f:Nat) (args:Array Value) (lo:Nat):Prop where
  call:∀ u w i b r,lo≤i→PS E w i b→I u w→one u (i,b)=some r→Calls prog f args w (cV E X w (fun w' x v=>lp w w' x.1 v∧I x.2 w') r)
  fine:∀ u i b,lo≤i→i<E.ts.length→qF E.ts (i+1) (one u) i b
  same:∀ u w w',I u w→(∀ k,X k→w'.heap[k]? = w.heap[k]?)→I u w'
  notg:¬ X E.g
  ent:∀ w,(callFunc f args).run prog w = .ok (.enter f args) w
structure LS {σ:Type} (E:Env) (X:Nat→Prop) (I:σ→World→Prop) (w wr:World) (i:Nat) (b:Bool) (u:σ) (out:List No) (v:Value) (xs:List Value):Prop where
  ps:PS E wr i b
  kept:I u wr
  own:wr.ownsRow w.heap.size 25 5 v out.length xs
  nos:aC wr (fun k=>w.heap.size≤k∧k<wr.heap.size∧v.ownBlock≠some k) out xs
  but:ay (fun k=>k=E.g∨X k) w wr
  len:out.length≤i+1
theorem LS.row {σ:Type} {X:Nat→Prop} {I:σ→World→Prop} {wr:World} {u:σ} {out:List No} {v:Value} {xs:List Value} (h:LS E X I w wr i b u out v xs):aQ wr (kE w wr) v out:=
  ⟨xs,Row.of_own h.own h.own.lt,h.nos.keep zr fun k hk=>⟨hk.1,hk.2.1⟩⟩
theorem LS.old {σ:Type} {X:Nat→Prop} {I:σ→World→Prop} {wr w1:World} {u:σ} {out:List No} {v:Value} {xs:List Value} {f:Nat} {args:Array Value} {lo:Nat} {one:σ→PM (No×σ)} (ho:One E X I one f args lo) (h:LS E X I w wr i b u out v xs) (hX:∀ k,X k→k<w.heap.size) (hb:Below wr.heap.size wr w1):LS E X I w w1 i b u out v xs:=by
  have hz:=h.but.size;have et:=hb.size
  exact ⟨h.ps.below hb,ho.same _ _ _ h.kept fun k hk=>hb.block k (by have:=hX k hk;omega),own_below h.own hb,
    h.nos.keep (aI.of_below hb fun k hk=>hk.2.1) fun k hk=>⟨hk.1,by omega,hk.2.2⟩,h.but.then_ hb,h.len⟩
theorem PS.same {w1:World} (h:PS E w i b) (h1:w1.heap[E.g]? = w.heap[E.g]?) (h2:w1.heap[E.a]? = w.heap[E.a]?) (hz:w.heap.size≤w1.heap.size):PS E w1 i b:=
  ⟨h1.trans h.blk,fun k hk=>by
    obtain ⟨g1,g2,g3,g4⟩:=h.tok k hk
    exact ⟨(World.cell?_of_block (a:=⟨E.a,_,none⟩) h2).trans g1,(World.cell?_of_block (a:=⟨E.a,_,none⟩) h2).trans g2,(World.cell?_of_block (a:=⟨E.a,_,none⟩) h2).trans g3,(World.cell?_of_block (a:=⟨E.a,_,none⟩) h2).trans g4⟩,
   h.ne,Nat.lt_of_lt_of_le h.lt hz,h.ilt⟩
theorem LS.step {σ:Type} {X:Nat→Prop} {I:σ→World→Prop} {w1 w2 w3:World} {u u2:σ} {out:List No} {v v':Value} {xs cs:List Value} {x:No} {i2:Nat} {o:Obj}
    (BH:∀ u w w',I u w→(∀ k,X k→w'.heap[k]? = w.heap[k]?)→I u w') (h:LS E X I w w1 i b u out v xs) (hX:∀ k,X k→k<w.heap.size) (fU:E.g<w.heap.size) (ic:E.a<w.heap.size)
    (cK:ay (fun k=>k=E.g∨X k) w1 w2) (cq:PS E w2 i2 b) (hk:I u2 w2) (hx:bG w2 (kE w1 w2) x cs) (hi:out.length≤i2)
    (aD:w3.ownsRow w.heap.size 25 5 v' (out.length+1) (xs ++ cs)) (hg:(w2.alloc o).grownBy w3 v.ownBlock) (cX:v'.ownBlock=v.ownBlock∨v'.ownBlock=some (w2.alloc o).heap.size) :
    LS E X I w w3 i2 b u2 (out ++ [x]) v' (xs ++ cs):=by
  have et:=h.but.size;have ep:=cK.size;have fK:=hg.size;simp at fK;have hl:=h.own.lt
  have gQ:∀ k,k<w2.heap.size→v.ownBlock≠some k→v'.ownBlock≠some k:=by
    intro k hk h;rcases cX with e | e <;> rw [e]
    · exact h
    · simp;omega
  have hold:∀ k,k<w2.heap.size→v.ownBlock≠some k→w3.heap[k]? = w2.heap[k]?:=fun k hk hn=>
    (hg.block k (by simp;omega) (fun e=>hn e.symm)).trans (Below.heap_alloc w2 o k hk)
  have Nl:∀ k,k<w.heap.size→v.ownBlock≠some k:=fun k hk e=>by have:=(hl k e).1;omega
  have Nm:∀ k,w.heap.size≤k→¬ (k=E.g∨X k):=fun k hk e=>by
    rcases e with e | e
    · omega
    · have:=hX k e;omega
  refine ⟨cq.same (hold _ (by omega) (Nl _ fU)) (hold _ (by omega) (Nl _ ic)) (by omega),BH _ _ _ hk fun k hk=>hold k (by have:=hX k hk;omega) (Nl k (hX k hk)),by simpa using aD,?_,?_,by simp;omega⟩
  · refine aC.append (h.nos.keep (fun k hk=>?_) (fun k hk=>?_)) (aC.one (hx.keep (fun k hk=>?_) (fun k hk=>?_)))
    · exact (hold k (by omega) hk.2.2).trans (cK.block k hk.2.1 (Nm k hk.1))
    · exact ⟨hk.1,by omega,gQ k (by omega) hk.2.2⟩
    · exact hold k hk.2 (fun e=>by have h1:=hk.1;have h2:=(hl k e).2;omega)
    · have h1:=hk.1
      have h2:=hk.2;exact ⟨by omega,by omega,gQ k hk.2 (fun e=>by have:=(hl k e).2;omega)⟩
  · refine ⟨hg.os.trans (cK.os.trans h.but.os),hg.tape.trans (cK.tape.trans h.but.tape),hg.output.trans (cK.output.trans h.but.output),by omega,fun k hk hn=>?_⟩
    exact (hold k (by omega) (Nl k hk)).trans ((cK.block k (by omega) hn).trans (h.but.block k hk hn))
theorem LS.move {σ:Type} {X:Nat→Prop} {I:σ→World→Prop} {w1 w2:World} {u:σ} {out:List No} {v:Value} {xs:List Value} {j:Nat}
    (BH:∀ u w w',I u w→(∀ k,X k→w'.heap[k]? = w.heap[k]?)→I u w') (Qw:¬ X E.g) (h:LS E X I w w1 i b u out v xs) (hX:∀ k,X k→k<w.heap.size) (fU:E.g<w.heap.size)
    (hb:ay (fun k=>k=E.g) w1 w2) (cq:PS E w2 j b) (hj:i≤j):LS E X I w w2 j b u out v xs:=by
  have et:=h.but.size;have ep:=hb.size;have hl:=h.own.lt;refine ⟨cq,BH _ _ _ h.kept fun k hk=>hb.block k (by have:=hX k hk;omega) (fun e=>Qw (e ▸ hk)),bk h.own fun k hk=>hb.block k (hl k hk).2 (by have:=(hl k hk).1;omega),h.nos.keep (fun k hk=>?_) (fun k hk=>⟨hk.1,by omega,hk.2.2⟩),h.but.trans hb (fun _ _ h=>.inl h),by have:=h.len;omega⟩;exact hb.block k hk.2.1 (by have:=hk.1;omega)
theorem pu {k fr Fq:Int} {tx:ByteArray} {A:Option Addr} {n c:Nat}:∀ u ∈ [Value.int .i64 k,.int .i64 fr,.int .i64 Fq,.string tx,.slice A n c],u.oneCell'=true:=by
  intro u hu;simp only [List.mem_cons,List.not_mem_nil,or_false] at hu;rcases hu with rfl | rfl | rfl | rfl | rfl <;> rfl
theorem dO:(prog.info? 25).map (fun i=>(i.zero,i.size,i.bytes))=some (some (.agg #[.int .i64 0,.int .i64 0,.int .i64 0,.string ByteArray.empty,.slice none 0 0]),5,64):=by kernel_rfl
theorem info_parts {P:Program} {t:TypeId} {z:Option Value} {a c:Nat} (h:(P.info? t).map (fun i=>(i.zero,i.size,i.bytes))=some (z,a,c)):∃ i,P.info? t=some i∧i.zero=z∧i.size=a∧i.bytes=c:=by
  cases hi:P.info? t with
  | none=>rw [hi] at h;cases h
  | some i=>
    rw [hi] at h;simp only [Option.map_some,Option.some.injEq,Prod.mk.injEq] at h;exact ⟨i,rfl,h.1,h.2.1,h.2.2⟩
theorem iC (hE:eH E) {σ:Type} {X:Nat→Prop} {I:σ→World→Prop} {one:σ→PM (No×σ)} {n lo least:Nat} {first cap args:Array Value} {closing:ByteArray} (ho:One E X I one n args lo) (ha:first ++ cap=args)
    {u:σ} {r:Except Int ((List No×σ)×Ps)} (hr:fp E.ts closing least one (E.ts.length+1) u [] (i,b)=some r) (h:PS E w i b) (hu:I u w) (dA:lo≤i) (yb:least≤1) (hX:∀ k,X k→k<w.heap.size) :
    Calls prog 95 #[(.pointer (some ⟨E.g,0,none⟩)),.string closing,.int .i64 least,.func (.func n) first cap] w (cV E X w (fun w' x v=>Kj w w' x.1 v∧I x.2 w') r):=by
  subst ha;have fU:=h.glt;have ic:=h.lt;have iS:=hE.len;have eY:=h.ilt;have HP:=zh h;have HE:=zh hE;have BO:=ho.ent;have HO:=zh ho;have HR:=zh hr;have HU:=zh hu;have HX:=zh hX;clear h hE ho hr hu hX;go_enter func95,ntmps95;go_wp2_with fail;obtain ⟨i0,fL,ga,f_,fZ⟩:=info_parts dO
  go_loopg [9] (E.ts.length+1) (fun m s9 wr=>∃ (f i':Nat) (u':σ) (out:List No) (B:Option Addr) (c:Nat) (xs:List Value),m=f∧lo≤i'∧s9 = .slice B out.length c∧Hd (fp E.ts closing least one f u' out (i',b)=some r)∧Hd (LS E X I w wr i' b u' out (.slice B out.length c) xs))
  case atStart=>exact ⟨E.ts.length+1,i,u,[],none,0,[],rfl,dA,rfl,HR.o,⟨HP.o,HU.o,World.ownsRow_nil _ _ _ _,aC.nil_,zb,Nat.zero_le _⟩⟩
  case round=>
    obtain ⟨f,i',u',out,B,c,xs,rfl,D8,rfl,wF,HL⟩:=hrel;cases gk with
    | zero=>exact absurd wF.o (by simp [fp])
    | succ f=>
      have hr:=wF.o;unfold fp at hr;replace hr:=cZ hr;have sB:=HL.o.ps.ilt;have eN:=HL.o.len;have r5:=zh hr;clear hr wF;go_wp2_with fail;refine (bm (l:=[closing]) HE.o (HL.o.ps.alloc _) (jT (n:=wr.heap.size) rfl) (ba rfl)).mono ?_;rintro e w1 ⟨rfl,cB⟩;have xY:Below wr.heap.size wr w1:=(aG _ _).trans (cB.mono (by simp));have et:=xY.size;have iO:Hd (LS E X I w w1 i' b u' out (.slice B out.length c) xs):=zh (HL.o.old HO.o HX.o xY);clear cB xY HL;by_cases hc:oneOf (E.tok i') [closing]=true∧¬ out.length<least
      case pos=>
        have hr:=r5.o;rw [if_pos hc] at hr;obtain rfl:=ar hr;rw [hc.1];(have kB:¬ (out.length:Int)<(least:Int):=by have:=hc.2;omega);clear hc hr r5;go_wp2_with fail;go_ret;exact ⟨iO.o.but,iO.o.ps,_,rfl,⟨_,_,rfl,iO.o.row⟩,iO.o.kept⟩
      case neg=>
        have hr:=r5.o;rw [if_neg hc] at hr;clear r5
        have RQ:oneOf (E.tok i') [closing]=false∨(oneOf (E.tok i') [closing]=true∧(out.length:Int)<(least:Int)):=by
          cases hq:oneOf (E.tok i') [closing]
          · exact .inl rfl
          · exact .inr ⟨rfl,by have h:=Classical.not_not.1 fun h=>hc ⟨hq,h⟩;omega⟩
        clear hc;have r5:=zh hr;clear hr;rcases RQ with hq | ⟨hq,kB⟩
        all_goals
          rw [hq];clear hq;go_wp2_with fail;obtain ⟨rx,h1,hr⟩:=ag r5.o;refine (HO.o.call u' w1 i' b rx D8 iO.o.ps iO.o.kept h1).mono ?_;rintro e w2 ⟨cK,jM⟩;rcases rx with p | ⟨⟨x,u2⟩,i2,b2⟩
          · dsimp only at jM hr
            subst jM;subst hr;go_wp2_with fail;exact ⟨rfl,iO.o.but.trans cK (fun _ _ h=>h),rfl⟩
          · obtain ⟨cq,v,rfl,⟨A2,c2,rfl,ae⟩,fT⟩:=jM
            dsimp only at hr cq ae fT;obtain ⟨sC,rfl⟩:=zf ((HO.o.fine u' i' b D8 sB).2 _ _ h1);have ep:=cK.size;have Ng:=iO.o.but.size;have sk:=zh hr;have aE:=zh cK;have bn:=zh cq;have lT:=zh fT;have WX:=cq.ilt;have AO:Hd (bG w2 (kE w1 w2) x [.int .i64 x.k,.int .i64 x.fr,.int .i64 x.to,.string x.tx,.slice A2 x.ks.length c2]):=zh (bG.mk_ ae)
            have nV:Hd (w2.ownsRow w.heap.size 25 5 (.slice B out.length c) out.length xs):=zh (bk iO.o.own fun k hk=>cK.block k (iO.o.own.lt k hk).2 (fun e=>by
              have h3:=(iO.o.own.lt k hk).1;rcases e with e | e
              · omega
              · have:=HX.o k e;omega))
            clear hr cK cq fT ae h1;go_wp2_with (at_builtin;refine au _ rfl _ _ 23 rfl w.heap.size 25 i0 _ 5 64 underlying23 fL ga f_ fZ rfl (by omega) (.slice B out.length c) out.length xs rfl (nV.o.alloc _) (fun k=>k=w2.heap.size) (.slice (some ⟨w2.heap.size,0,none⟩) 1 1) 1 [.int .i64 x.k,.int .i64 x.fr,.int .i64 x.to,.string x.tx,.slice A2 x.ks.length c2] rfl ((aj.new w2 _ _).row (n:=1) rfl (by unfold maxLen;omega) rfl) pu (by unfold maxLen;omega) (by omega) (by simp;omega) ?_);intro v' w3 aD hg bN cX;obtain ⟨B3,c3,rfl⟩:=cA aD;have lu:=zh (LS.step HO.o.same iO.o HX.o fU ic aE.o bn.o lT.o AO.o (by omega) aD hg (by simpa using cX));clear aD hg bN cX nV AO aE bn lT iO;rw [show out.length+1=(out ++ [x]).length from by simp] at lu ⊢;by_cases hq:oneOf (E.tok i2) [⟨#[44]⟩]=true
            · have hr:=aM sk.o hq
              rw [if_pos rfl] at hr;have r5:=zh hr;clear hr sk;go_wp2_with fail;refine (mt (l:=[⟨#[44]⟩]) HE.o (lu.o.ps.alloc _) (jT (n:=w3.heap.size) rfl) (ba rfl) hq).mono ?_;rintro e w4 ⟨rfl,zG,dB⟩;have jR:=zh (LS.move HO.o.same HO.o.notg (lu.o.old HO.o HX.o (aG _ _)) HX.o fU dB zG (by omega));clear zG dB lu;go_wp2_with fail
              go_roundg f
              case measure=>omega
              case rel=>exact ⟨f,i2+1,u2,out ++ [x],B3,c3,_,rfl,by omega,by simp,r5,jR⟩
            · replace hq:=Bool.eq_false_iff.2 hq
              have hr:=aN sk.o hq;rw [if_neg (by decide)] at hr;obtain rfl:=ar hr;clear hr sk;go_wp2_with fail;refine (o3 (l:=[⟨#[44]⟩]) HE.o (lu.o.ps.alloc _) (jT (n:=w3.heap.size) rfl) (ba rfl) hq).mono ?_;rintro e w4 ⟨rfl,dB⟩;have jR:=zh ((lu.o.old HO.o HX.o (aG _ _)).old HO.o HX.o dB);clear dB lu;go_wp2_with fail;go_ret;exact ⟨jR.o.but,jR.o.ps,_,rfl,⟨B3,c3,by simp,jR.o.row⟩,jR.o.kept⟩
end
def oG (e:UInt8):Option UInt8:=if e=92∨e=34 then some e else if e=110 then some 10 else if e=116 then some 9 else none
def bP (fr:Nat):List UInt8→Nat→List UInt8→Except Int (Nat×List UInt8)
  | [],_,_=>.error fr
  | c :: t,p,acc=>if c=10 then .error fr else if c=34 then .ok (p+1,acc)
    else if c=92 then (match t with
      | []=>.error p
      | e :: t'=>match oG e with
        | none=>.error p
        | some x=>bP fr t' (p+2) (acc ++ [x]))
    else bP fr t (p+1) (acc ++ [c])
def gl (r:List UInt8):Option Nat:=
  if (r.headD 0=48∧1<(r.takeWhile dZ).length)∨200<(r.takeWhile dZ).length∨(∃ c ∈ (r.drop (r.takeWhile dZ).length).head?,ly c=true) then none else some (r.takeWhile dZ).length
def dK (r:List UInt8):Option Nat:=
  if r.getD 1 0=42 then (if Lib.index (r.drop 2) [42,47]<0 then none else some ((Lib.index (r.drop 2) [42,47]).toNat+4))
  else some (if Lib.indexByte r 10<0 then r.length else (Lib.indexByte r 10).toNat)
def bs (l:List UInt8):ByteArray:=⟨l.toArray⟩
def aX:Nat→List UInt8→Nat→List Tk→Except Int (List Tk)
  | 0,_,_,l=>.ok l
  | _+1,[],p,l=>.ok (bB p l ++ [⟨7,p,p,⟨#[]⟩⟩])
  | f+1,c :: t,p,l=>
    if c=10 then aX f t (p+1) (bB p l)
    else if c=32∨c=9∨c=13 then aX f t (p+1) l
    else if c=47∧(t.headD 0=47∨t.headD 0=42) then
      match dK (c :: t) with
      | none=>.error p
      | some n=>aX f ((c :: t).drop n) (p+n) (if 0≤Lib.indexByte ((c :: t).take n) 10 then bB p l else l)
    else if 60<dq (c :: t) then .error p
    else if 0<dq (c :: t) then aX f ((c :: t).drop (dq (c :: t))) (p+dq (c :: t)) (l ++ [⟨if j7 (bs ((c :: t).take (dq (c :: t))))=true then 4 else 1,p,p+dq (c :: t),bs ((c :: t).take (dq (c :: t)))⟩])
    else if dZ c=true then
      match gl (c :: t) with
      | none=>.error p
      | some n=>aX f ((c :: t).drop n) (p+n) (l ++ [⟨2,p,p+n,bs ((c :: t).take n)⟩])
    else if c=34 then
      match bP p t (p+1) [] with
      | .error e=>.error e
      | .ok (q,tx)=>aX f ((c :: t).drop (q - p)) q (l ++ [⟨3,p,q,bs tx⟩])
    else if c=59 then aX f t (p+1) (l ++ [⟨6,p,p+1,⟨#[59]⟩⟩])
    else if ce (bs (c :: t))=0 then .error p
    else aX f ((c :: t).drop (ce (bs (c :: t)))) (p+ce (bs (c :: t))) (l ++ [⟨5,p,p+ce (bs (c :: t)),bs ((c :: t).take (ce (bs (c :: t))))⟩])
theorem ma {s:ByteArray} {p n:Nat}:s.extract p (p+n)=bs ((s.data.toList.drop p).take n):=by
  apply ByteArray.ext;apply Array.ext';rw [Lib.extract_data,Nat.add_sub_cancel_left];rfl
theorem FX {s:ByteArray} {p:Nat}:s.extract p s.size=bs (s.data.toList.drop p):=by
  apply ByteArray.ext;apply Array.ext';rw [Lib.extract_to_end];rfl
set_option maxRecDepth 100000
set_option maxHeartbeats 2000000
section
variable {E:Env} {w:World} {i:Nat} {b:Bool}
structure PD (E:Env) (X:Nat→Prop) (I:World→Prop) (one:PM (No×Bool)) (f:Nat) (args:Array Value) (lo:Nat):Prop where
  call:∀ w i b r,lo≤i→PS E w i b→I w→one (i,b)=some r→Calls prog f args w (cV E X w (fun w' x v=>QM w w' x v∧I w') r)
  fine:∀ i b,lo≤i→i<E.ts.length→qF E.ts i one i b
  ent:∀ w,(callFunc f args).run prog w = .ok (.enter f args) w
structure Ends (E:Env) (I:World→Prop) (ends:Tk→Bool) (f:Nat) (args:Array Value):Prop where
  call:∀ w i b,PS E w i b→I w→Calls prog f args w (fun e w'=>e = .returned (.bool (ends (E.tok i)))∧Below w.heap.size w w')
  ent:∀ w,(callFunc f args).run prog w = .ok (.enter f args) w
theorem LS.old2 {X:Nat→Prop} {I:World→Prop} {wr w1:World} {out:List No} {v:Value} {xs:List Value} (hs:∀ w w',I w→(∀ k,X k→w'.heap[k]? = w.heap[k]?)→I w') (h:LS E X (fun _:Unit=>I) w wr i b () out v xs) (hX:∀ k,X k→k<w.heap.size) (hb:Below wr.heap.size wr w1):LS E X (fun _:Unit=>I) w w1 i b () out v xs:=by
  have hz:=h.but.size;have et:=hb.size
  exact ⟨h.ps.below hb,hs _ _ h.kept fun k hk=>hb.block k (by have:=hX k hk;omega),own_below h.own hb,
    h.nos.keep (aI.of_below hb fun k hk=>hk.2.1) fun k hk=>⟨hk.1,by omega,hk.2.2⟩,h.but.then_ hb,h.len⟩
theorem LS.skip {X:Nat→Prop} {I:World→Prop} {w1 w2:World} {out:List No} {v:Value} {xs:List Value} {i2:Nat} (h:LS E X (fun _:Unit=>I) w w1 i b () out v xs) (hX:∀ k,X k→k<w.heap.size) (fU:E.g<w.heap.size)
    (cK:ay (fun k=>k=E.g∨X k) w1 w2) (cq:PS E w2 i2 b) (hk:I w2) (hi:i≤i2):LS E X (fun _:Unit=>I) w w2 i2 b () out v xs:=by
  have et:=h.but.size;have ep:=cK.size;have hl:=h.own.lt
  have Nm:∀ k,w.heap.size≤k→¬ (k=E.g∨X k):=fun k hk e=>by
    rcases e with e | e
    · omega
    · have:=hX k e;omega
  exact ⟨cq,hk,bk h.own fun k hk=>cK.block k (hl k hk).2 (Nm k (hl k hk).1),h.nos.keep (fun k hk=>cK.block k hk.2.1 (Nm k hk.1)) (fun k hk=>⟨hk.1,by omega,hk.2.2⟩),h.but.trans cK (fun _ _ h=>h),by have:=h.len;omega⟩
theorem su (hE:eH E) {X:Nat→Prop} {I:World→Prop} {one:PM (No×Bool)} {ends:Tk→Bool} {n m lo:Nat} {first cap Sp args:Array Value} (ho:PD E X I one n args lo) (ha:first ++ cap=args) (he:Ends E I ends m Sp)
    (hs:∀ w w',I w→(∀ k,X k→w'.heap[k]? = w.heap[k]?)→I w') (Qw:¬ X E.g)
    {r:Except Int (List No×Ps)} (hr:rowP E.ts ends one (E.ts.length+1) [] (i,b)=some r) (h:PS E w i b) (hu:I w) (dA:lo≤i) (hX:∀ k,X k→k<w.heap.size) :
    Calls prog 141 #[(.pointer (some ⟨E.g,0,none⟩)),.func (.func m) #[] Sp,.func (.func n) first cap] w (cV E X w (fun w' x v=>Kj w w' x v∧I w') r):=by
  subst ha;have fU:=h.glt;have ic:=h.lt;have iS:=hE.len;have eY:=h.ilt;have HP:=zh h;have HE:=zh hE;have BO:=ho.ent;have hene:=he.ent;have HO:=zh ho;have HN:=zh he;have HR:=zh hr;have HU:=zh hu;have HX:=zh hX;have HS:=zh hs;have HG:=zh Qw;clear h hE ho hr hu hX he hs Qw;go_enter func141,ntmps141;go_wp2_with fail;obtain ⟨i0,fL,ga,f_,fZ⟩:=info_parts dO
  go_loopg [7] (E.ts.length+1) (fun m s7 wr=>∃ (f i':Nat) (out:List No) (B:Option Addr) (c:Nat) (xs:List Value),m=f∧lo≤i'∧out.length≤i'∧s7 = .slice B out.length c∧Hd (rowP E.ts ends one f out (i',b)=some r)∧Hd (LS E X (fun _:Unit=>I) w wr i' b () out (.slice B out.length c) xs))
  case atStart=>exact ⟨E.ts.length+1,i,[],none,0,[],rfl,dA,Nat.zero_le _,rfl,HR.o,⟨HP.o,HU.o,World.ownsRow_nil _ _ _ _,aC.nil_,zb,Nat.zero_le _⟩⟩
  case round=>
    obtain ⟨f,i',out,B,c,xs,rfl,D8,hle',rfl,wF,HL⟩:=hrel;cases gk with
    | zero=>exact absurd wF.o (by simp [rowP])
    | succ f=>
      have hr:=wF.o;unfold rowP at hr;replace hr:=bW hr;have sB:=HL.o.ps.ilt;have eN:=HL.o.len;have r5:=zh hr;clear hr wF;go_wp2_with fail;refine (HN.o.call wr i' b HL.o.ps HL.o.kept).mono ?_;rintro e w1 ⟨rfl,cB⟩;have et:=cB.size;have iO:=zh (HL.o.old2 HS.o HX.o cB);clear cB HL;by_cases hc:ends (E.tok i')=true
      case pos=>
        have hr:=r5.o;rw [if_pos hc] at hr;obtain rfl:=ar hr;rw [hc];clear hc hr r5;go_wp2_with fail;go_ret;exact ⟨iO.o.but,iO.o.ps,_,rfl,⟨_,_,rfl,iO.o.row⟩,iO.o.kept⟩
      case neg=>
        have hr:=r5.o;rw [if_neg hc] at hr;rw [Bool.eq_false_iff.2 hc];clear r5 hc;have r5:=zh hr;clear hr;go_wp2_with fail;obtain ⟨rx,h1,hr⟩:=ag r5.o;refine (HO.o.call w1 i' b rx D8 iO.o.ps iO.o.kept h1).mono ?_;rintro e w2 ⟨cK,jM⟩;rcases rx with p | ⟨⟨x,q⟩,i2,b2⟩
        · dsimp only at jM hr
          subst jM;subst hr;go_wp2_with fail;exact ⟨rfl,iO.o.but.trans cK (fun _ _ h=>h),rfl⟩
        · obtain ⟨cq,v,rfl,⟨A2,c2,rfl,ae⟩,fT⟩:=jM
          dsimp only at hr cq ae fT;obtain ⟨sC,rfl⟩:=zf ((HO.o.fine i' b D8 sB).2 _ _ h1);have ep:=cK.size;have Ng:=iO.o.but.size;replace hr:=bW hr;have sk:=zh hr;have aE:=zh cK;have bn:=zh cq;have lT:=zh fT;have WX:=cq.ilt;have AO:Hd (bG w2 (kE w1 w2) x [.int .i64 x.k,.int .i64 x.fr,.int .i64 x.to,.string x.tx,.slice A2 x.ks.length c2]):=zh (bG.mk_ ae);clear hr cK cq fT ae h1
          go_upto_region 4 with fail
          obtain ⟨W,hW⟩:∃ W,W=w2.alloc (.cells #[.int .i64 x.k,.int .i64 x.fr,.int .i64 x.to,.string x.tx,.slice A2 x.ks.length c2] 25):=⟨_,rfl⟩;rw [← hW];(have Wp:w2.heap.size<W.heap.size:=by rw [hW];simp);(have FR:aj W w2.heap.size 25 #[.int .i64 x.k,.int .i64 x.fr,.int .i64 x.to,.string x.tx,.slice A2 x.ks.length c2]:=by rw [hW];exact aj.new _ _ _);(have Jp:Below w2.heap.size w2 W:=by rw [hW];exact aG _ _);have gM:=zh FR;have Ob:=zh (bn.o.below Jp);have QX:=zh (aE.o.then_ Jp);have Ug:=zh (HS.o _ _ lT.o fun k hk=>Jp.block k (by have:=HX.o k hk;omega));have ZO:Hd (bG W (kE w1 W) x [.int .i64 x.k,.int .i64 x.fr,.int .i64 x.to,.string x.tx,.slice A2 x.ks.length c2]):=zh (AO.o.keep (aI.of_below Jp fun k hk=>hk.2) fun k hk=>⟨hk.1,by have:=hk.2;omega⟩)
          have Lo:Hd (W.ownsRow w.heap.size 25 5 (.slice B out.length c) out.length xs):=zh (own_below (bk iO.o.own fun k hk=>aE.o.block k (iO.o.own.lt k hk).2 (fun e=>by
            have h3:=(iO.o.own.lt k hk).1;rcases e with e | e
            · omega
            · have:=HX.o k e;omega)) Jp)
          clear hW FR Jp AO bn lT aE;obtain ⟨qL,qK,qJ,qI,pH,qg,qe⟩:=gM.o.cells5
          go_upto_if 18 with fail
          go_cut [7] (fun s7 V=>∃ (B3:Option Addr) (c3:Nat) (x3:List Value),s7 = .slice B3 (if q=true then out ++ [x] else out).length c3∧Hd (LS E X (fun _:Unit=>I) w V i2 b () (if q=true then out ++ [x] else out) (.slice B3 (if q=true then out ++ [x] else out).length c3) x3))
          case first=>
            cases q with
            | false=>
              go_wp2_with fail
              go_meet
              exact ⟨B,c,xs,rfl,iO.o.skip HX.o fU QX.o Ob.o Ug.o sC⟩
            | true=>
              go_wp2_with (at_builtin;refine au _ rfl _ _ 23 rfl w.heap.size 25 i0 _ 5 64 underlying23 fL ga f_ fZ rfl (by omega) (.slice B out.length c) out.length xs rfl (Lo.o.alloc _) (fun k=>k=W.heap.size) (.slice (some ⟨W.heap.size,0,none⟩) 1 1) 1 [.int .i64 x.k,.int .i64 x.fr,.int .i64 x.to,.string x.tx,.slice A2 x.ks.length c2] rfl ((aj.new W _ _).row (n:=1) rfl (by unfold maxLen;omega) rfl) pu (by unfold maxLen;omega) (by omega) (by simp;omega) ?_);intro v' w3 aD hg bN cX;obtain ⟨B3,c3,rfl⟩:=cA aD;have lu:=zh (LS.step (u2:=()) (fun _=>HS.o) iO.o HX.o fU ic QX.o Ob.o Ug.o ZO.o (by omega) aD hg (by simpa using cX));clear aD hg bN cX;go_wp2_with fail
              go_meet
              exact ⟨B3,c3,_,by simp,by simpa using lu⟩
          case rest=>
            obtain ⟨B3,c3,x3,rfl,lu⟩:=hcut;clear qL qK qJ qI pH qg qe gM Ob QX Ug ZO Lo iO;obtain ⟨Q3,UR⟩:∃ l,(if q=true then out ++ [x] else out)=l:=⟨_,rfl⟩;(have hlen2:Q3.length≤i2+1:=by rw [← UR];exact lu.o.len);rw [UR] at lu sk ⊢;clear UR;go_wp2_with fail;refine (HN.o.call wc i2 b lu.o.ps lu.o.kept).mono ?_;rintro e w4 ⟨rfl,dB⟩;have jR:=zh (lu.o.old2 HS.o HX.o dB);clear dB lu;by_cases hc:ends (E.tok i2)=true
            · have hr:=sk.o
              rw [if_pos hc] at hr;obtain rfl:=ar hr;rw [hc];clear hc hr sk;go_wp2_with fail;go_ret;exact ⟨jR.o.but,jR.o.ps,_,rfl,⟨_,_,rfl,jR.o.row⟩,jR.o.kept⟩
            · have hr:=sk.o
              rw [if_neg hc] at hr;rw [Bool.eq_false_iff.2 hc];clear hc sk;go_wp2_with fail;by_cases hq:(E.tok i2).k=6
              · replace hr:=eB hr hq
                have r5:=zh hr;clear hr;refine (ij HE.o jR.o.ps hq).mono ?_;rintro e w5 ⟨rfl,Ri,dz⟩;have Az:=zh (LS.move (fun _=>HS.o) HG.o jR.o HX.o fU dz Ri (by omega));clear Ri dz jR hq;go_wp2_with fail
                go_roundg f
                case measure=>omega
                case rel=>exact ⟨f,i2+1,Q3,B3,c3,x3,rfl,by omega,by omega,rfl,r5,Az⟩
              · obtain rfl:=eC hr hq
                refine (jV HE.o jR.o.ps hq).mono ?_;rintro e w5 ⟨rfl,dz⟩;clear hq hr;go_wp2_with fail;exact ⟨rfl,jR.o.but.then_ dz,rfl⟩
end
def Hl (S:Nat→Prop) (w w':World) (x:No) (v:Value):Prop:=∃ A c,v = .agg #[.int .i64 x.k,.int .i64 x.fr,.int .i64 x.to,.string x.tx,.slice A x.ks.length c]∧aQ w' (fun k=>S k∨kE w w' k) (.slice A x.ks.length c) x.ks
structure OkG (E:Env) (G:Gr):Prop where
  typ:∀ {w:World} {i:Nat} {b:Bool} {r:Except Int (No×Ps)},G.typ (i,b)=some r→PS E w i b→Calls prog 79 #[(.pointer (some ⟨E.g,0,none⟩))] w (cV E eh w (lp w) r)
  expr:∀ {w:World} {i:Nat} {b:Bool} {r:Except Int (No×Ps)},G.expr (i,b)=some r→PS E w i b→Calls prog 21 #[(.pointer (some ⟨E.g,0,none⟩))] w (cV E eh w (lp w) r)
  unary:∀ {w:World} {i:Nat} {b:Bool} {r:Except Int (No×Ps)},G.unary (i,b)=some r→PS E w i b→Calls prog 38 #[(.pointer (some ⟨E.g,0,none⟩))] w (cV E eh w (lp w) r)
  binary:∀ {w:World} {i:Nat} {b:Bool} {r:Except Int (No×Ps)} {x:No} {cs:List Value} {least:Nat} {S:Nat→Prop},G.binary x least (i,b)=some r→PS E w i b→bG w S x cs→(∀ k,S k→k<w.heap.size∧k≠E.g)→1≤least∧least≤6→1≤i→
    Calls prog 37 #[(.pointer (some ⟨E.g,0,none⟩)),.agg cs.toArray,.int .i64 least] w (cV E eh w (Hl S w) r)
  suffixes:∀ {w:World} {i:Nat} {b:Bool} {r:Except Int (No×Ps)} {x:No} {cs:List Value} {S:Nat→Prop},G.suffixes x (i,b)=some r→PS E w i b→bG w S x cs→(∀ k,S k→k<w.heap.size∧k≠E.g)→1≤i→
    Calls prog 86 #[(.pointer (some ⟨E.g,0,none⟩)),.agg cs.toArray] w (cV E eh w (Hl S w) r)
  stmt:∀ {w:World} {i:Nat} {b:Bool} {r:Except Int ((No×Bool)×Ps)},G.stmt (i,b)=some r→PS E w i b→1≤i→Calls prog 138 #[(.pointer (some ⟨E.g,0,none⟩))] w (cV E eh w (QM w) r)
  branch:∀ {w:World} {i:Nat} {b:Bool} {r:Except Int (No×Ps)},G.branch (i,b)=some r→PS E w i b→1≤i→oneOf (E.tok i) [⟨#[105,102]⟩]=true→Calls prog 167 #[(.pointer (some ⟨E.g,0,none⟩))] w (cV E eh w (lp w) r)
theorem I6 (E:Env):OkG E K7 where
  typ h _:=by simp [K7] at h
  expr h _:=by simp [K7] at h
  unary h _:=by simp [K7] at h
  binary h _ _ _ _ _:=by simp [K7] at h
  suffixes h _ _ _ _:=by simp [K7] at h
  stmt h _ _:=by simp [K7] at h
  branch h _ _ _:=by simp [K7] at h
set_option maxRecDepth 100000
set_option maxHeartbeats 2000000
section
variable {E:Env} {G:Gr} {lo:Nat} {w:World} {i:Nat} {b:Bool}
theorem vo (hE:eH E) (hF:GF E.ts G lo) (hO:OkG E G) {cb pb:Nat} (Ig:cb≠E.g) (rv:pb≠E.g) (K9:cb≠E.a) (uc:pb≠E.a) (Nt:cb≠pb) {lk:Bool} {r:Except Int ((No×Bool)×Ps)} (hr:gC E.ts G lk (i,b)=some r) (h:PS E w i b) (hi:lo<i)
    (hc:aj w cb 4 #[.bool lk]) (hp:aj w pb 49 #[(.pointer (some ⟨E.g,0,none⟩))]) :
    Calls prog 135 #[.pointer (some ⟨cb,0,none⟩),.pointer (some ⟨pb,0,none⟩)] w (cV E (fun k=>k=cb∨k=pb) w (fun w' x v=>lp w w' x.1 v∧aj w' cb 4 #[.bool x.2]∧aj w' pb 49 #[(.pointer (some ⟨E.g,0,none⟩))]) r):=by
  have fU:=h.glt;have ic:=h.lt;have iS:=hE.len;have eY:=h.ilt;have FP:=hc.lt;have AD:=hp.lt;have HP:=zh h;have HE:=zh hE;have HF:=zh hF;have HO:=zh hO;have gj:=zh hc;have lx:=zh hp;have cT:Hd (ay (fun k=>k=E.g∨(k=cb∨k=pb)) w w):=zh zb;clear h hE hF hO hc hp;have iM:=aO;have iT:=aU;have jf:=aT;have iL:=aS;go_enter func135,ntmps135;unfold gC at hr;cases lk
  case true=>
   rw [if_pos rfl] at hr;replace hr:=d_ hr;obtain ⟨gL,gK,gJ⟩:=gj.o.c1;obtain ⟨bg,bi,bh⟩:=lx.o.c1;go_wp2_with fail;refine (cI HE.o (HP.o.alloc _)).mono ?_;rintro e wz ⟨rfl,hb⟩;subst hr;go_wp2_with fail;exact ⟨rfl,(cT.o.alloc _).then_ hb,rfl⟩
  case false=>
   rw [if_neg (by decide)] at hr;obtain ⟨gL,gK,gJ⟩:=gj.o.c1;obtain ⟨bg,bi,bh⟩:=lx.o.c1;go_wp2_with fail;replace hr:=eu hr;refine eO (E:=E) (cY HE.o (HP.o.alloc _)) ?_;intro w1 hb hx et hw;obtain ⟨jH,d5⟩:=dJ gj lx hw;have cM:=cW w.heap.size hx;have bp:=dX HP hb;have a7:=b0 cT hw;clear gL gK gJ bg bi bh gj lx hw hb hx;obtain ⟨bg,bi,bh⟩:=d5.o.c1;go_wp2_with fail;by_cases hq:(E.tok i).k=1
   case neg=>
    replace hr:=bY hr hq;subst hr;refine (dV HE.o bp.o hq).mono ?_;rintro e wz ⟨rfl,hb⟩;go_wp2_with fail;exact ⟨rfl,a7.o.then_ hb,rfl⟩
   case pos=>
    replace hr:=bX hr hq;refine xP (dn HE.o bp.o hq) ?_;intro w2 hp hb hx ep hw;obtain ⟨iq,dU,bO⟩:=fq jH d5 cM hw;have bn:=zh hp;have aE:=b0 a7 hw;clear bg bi bh jH d5 cM bp a7 hw hb hx hp;have kS:=nN w2 (E.tok i);clear hq;obtain ⟨bg,bi,bh⟩:=dU.o.c1;go_wp2_with fail;by_cases hq:oneOf (E.tok (i+1)) [⟨#[46,46,46]⟩]=true
    ·
     replace hr:=aM hr hq;(try rw [if_pos rfl] at hr);refine K4 (K2 [⟨#[46,46,46]⟩] HE bn hq) ?_;intro w3 hp hb hx fK hw;obtain ⟨oV,eQ,cC⟩:=fq iq dU bO hw;have pD:=fJ w2.heap.size hx;have nR:=n0 kS hw;have bD:=zh hp;have be:=b0 aE hw;clear bg bi bh iq dU bO kS bn aE hw hb hx hp;obtain ⟨gL,gK,gJ⟩:=oV.o.c1;obtain ⟨bg,bi,bh⟩:=eQ.o.c1;go_wp2_with fail;obtain ⟨rx,h1,hr⟩:=ag hr;refine (HO.o.typ h1 (bD.o.far1 (by omega) (by omega) _)).mono ?_;rintro e w4 hp;rcases rx with p | ⟨x4,i4,b4⟩
     ·
      obtain ⟨hb,rfl⟩:=hp;cases hr;(try go_wp2_with fail);exact ⟨rfl,(be.o.set1 (.inr (.inr (.inl rfl))) _).trans hb mg,rfl⟩
     (try dsimp only at hr);obtain ⟨Ea,rfl⟩:=zf ((HF.o.typ _ _ (by omega) bD.o.ilt).2 _ _ h1);obtain ⟨hb,hp,v,rfl,A4,c4,rfl,ae⟩:=hp;(try dsimp only at hp ae);have iV:=hb.size;(try simp at iV);have hw:ay (Xs E [cb]) w3 w4:=(zb.set1 (.inr (.inr (by simp))) _).trans hb xg;have rX:Hd (aj w4 cb 4 #[.bool true]):=zh ((oV.o.put1 _).but hb (ng (by omega)));have fC:=k1 eQ hw;have cS:=k1 cC hw;have mq:=k1 pD hw;have lw:=n1 nR hw;have bM:=zh hp;have bu:=YtfmgdmeopakdaaaGreatDoor.b2 be hw (by simp <;> omega);clear gL gK gJ bg bi bh oV eQ cC pD nR bD be hw;have pZ:=zn (lo:=w3.heap.size) ae;clear ae hb hp h1;obtain ⟨bg,bi,bh⟩:=fC.o.c1;obtain ⟨jB,jA,jz,jy,jx,jw,ju⟩:=mq.o.cells5;go_wp2_with fail;refine kT (E:=E) (ak HE.o ((bM.o.alloc _).alloc _) (by omega)) ?_;intro w5 hb hx jY hw;obtain ⟨Ge,fy,cN,mj⟩:=jd rX fC cS mq hw;have jP:=fJ w4.heap.size hx;have nq:=cW (w4.heap.size+1) hx;have kD:=n0 lw hw;have qy:=n0 pZ hw;have bH:=kG bM hb;have a8:=b0 bu hw;clear bg bi bh jB jA jz jy jx jw ju rX fC cS mq lw pZ bM bu hw hb hx
     obtain ⟨di,dh,de,dd,dc,db,da⟩:=cN.o.cells5;go_wp2_with fail;replace hr:=bv hr;obtain rfl:=ar hr;exact am (r:=w.heap.size) results135 (by rfl) cN.o.p5 (by rfl) ⟨a8.o.s5,bH.o.f6,_,rfl,⟨⟨_,_,rfl,aJ (n:=2) nq.o.f5 (aC.cons_ (zv (E:=E) kD) (aC.one (zv (E:=E) qy))) rfl (by decide) (⟨by omega,by simp <;> omega⟩)⟩,Ge.o.f5,fy.o.f5⟩⟩
    ·
     replace hq:=Bool.eq_false_iff.2 hq;replace hr:=aN hr hq;(try rw [if_neg Bool.false_ne_true] at hr);refine kT (E:=E) (K3 [⟨#[46,46,46]⟩] HE bn hq) ?_;intro w3 hb hx fK hw;obtain ⟨oV,eQ,cC⟩:=fq iq dU bO hw;have pD:=fJ w2.heap.size hx;have nR:=n0 kS hw;have bD:=kG bn hb;have be:=b0 aE hw;clear bg bi bh iq dU bO kS bn aE hw hb hx;obtain ⟨gL,gK,gJ⟩:=oV.o.c1;obtain ⟨bg,bi,bh⟩:=eQ.o.c1;go_wp2_with fail;obtain ⟨rx,h1,hr⟩:=ag hr;refine (HO.o.typ h1 (bD.o.far1 (by omega) (by omega) _)).mono ?_;rintro e w4 hp;rcases rx with p | ⟨x4,i4,b4⟩
     ·
      obtain ⟨hb,rfl⟩:=hp;cases hr;(try go_wp2_with fail);exact ⟨rfl,(be.o.set1 (.inr (.inr (.inl rfl))) _).trans hb mg,rfl⟩
     (try dsimp only at hr);obtain ⟨Ea,rfl⟩:=zf ((HF.o.typ _ _ (by omega) bD.o.ilt).2 _ _ h1);obtain ⟨hb,hp,v,rfl,A4,c4,rfl,ae⟩:=hp;(try dsimp only at hp ae);have iV:=hb.size;(try simp at iV);have hw:ay (Xs E [cb]) w3 w4:=(zb.set1 (.inr (.inr (by simp))) _).trans hb xg;have rX:Hd (aj w4 cb 4 #[.bool false]):=zh ((oV.o.put1 _).but hb (ng (by omega)));have fC:=k1 eQ hw;have cS:=k1 cC hw;have mq:=k1 pD hw;have lw:=n1 nR hw;have bM:=zh hp;have bu:=YtfmgdmeopakdaaaGreatDoor.b2 be hw (by simp <;> omega);clear gL gK gJ bg bi bh oV eQ cC pD nR bD be hw;have pZ:=zn (lo:=w3.heap.size) ae;clear ae hb hp h1;obtain ⟨bg,bi,bh⟩:=fC.o.c1;obtain ⟨jB,jA,jz,jy,jx,jw,ju⟩:=mq.o.cells5;go_wp2_with fail;refine kT (E:=E) (ak HE.o ((bM.o.alloc _).alloc _) (by omega)) ?_;intro w5 hb hx jY hw;obtain ⟨Ge,fy,cN,mj⟩:=jd rX fC cS mq hw;have jP:=fJ w4.heap.size hx;have nq:=cW (w4.heap.size+1) hx;have kD:=n0 lw hw;have qy:=n0 pZ hw;have bH:=kG bM hb;have a8:=b0 bu hw;clear bg bi bh jB jA jz jy jx jw ju rX fC cS mq lw pZ bM bu hw hb hx
     obtain ⟨di,dh,de,dd,dc,db,da⟩:=cN.o.cells5;go_wp2_with fail;replace hr:=bv hr;obtain rfl:=ar hr;exact am (r:=w.heap.size) results135 (by rfl) cN.o.p5 (by rfl) ⟨a8.o.s5,bH.o.f6,_,rfl,⟨⟨_,_,rfl,aJ (n:=2) nq.o.f5 (aC.cons_ (zv (E:=E) kD) (aC.one (zv (E:=E) qy))) rfl (by decide) (⟨by omega,by simp <;> omega⟩)⟩,Ge.o.f5,fy.o.f5⟩⟩
theorem zQ (args:Array Value) (w:World):(callFunc 135 args).run prog w = .ok (.enter 135 args) w:=by kernel_rfl
theorem zd (hE:eH E) (hF:GF E.ts G lo) (hO:OkG E G) {cb pb:Nat} (Ig:cb≠E.g) (rv:pb≠E.g) (K9:cb≠E.a) (uc:pb≠E.a) (Nt:cb≠pb) :
    One E (fun k=>k=cb∨k=pb) (fun lk w=>aj w cb 4 #[.bool lk]∧aj w pb 49 #[(.pointer (some ⟨E.g,0,none⟩))]) (gC E.ts G) 135 #[.pointer (some ⟨cb,0,none⟩),.pointer (some ⟨pb,0,none⟩)] (lo+1) where
  call _ _ _ _ _ dA cq hI hr:=vo hE hF hO Ig rv K9 uc Nt hr cq dA hI.1 hI.2
  fine u _ _ dA hi:=mT hE.wt hF dA hi u
  same _ _ _ h k:=⟨(k cb (.inl rfl)).trans h.1,(k pb (.inr rfl)).trans h.2⟩
  notg e:=by rcases e with e | e;exact Ig e.symm;exact rv e.symm
  ent w:=zQ _ w
theorem ei (hE:eH E) (hF:GF E.ts G lo) (hO:OkG E G) (dA:lo≤i) {r:Except Int (No×Ps)} (hr:iu E.ts G (i,b)=some r) (h:PS E w i b):Calls prog 97 #[(.pointer (some ⟨E.g,0,none⟩))] w (cV E eh w (lp w) r):=by
  have fU:=h.glt;have ic:=h.lt;have iS:=hE.len;have eY:=h.ilt;have HP:=zh h;have HE:=zh hE;have cT:Hd (ay (fun k=>gX E k) w w):=zh zb;have HF:=zh hF;have HO:=zh hO;clear hF hO;clear h hE;have iM:=aO;have iT:=aU;have jf:=aT;have iL:=aS;go_enter func97,ntmps97;unfold iu at hr;go_wp2_with fail;by_cases hq:oneOf (E.tok i) [⟨#[40]⟩]=true
  case neg=>
   replace hq:=Bool.eq_false_iff.2 hq;replace hr:=aZ hr hq;subst hr;refine (ci (x:=⟨#[40]⟩) HE.o ((HP.o.alloc _).alloc _) hq).mono ?_;rintro e wz ⟨rfl,hb⟩;go_wp2_with fail;exact ⟨rfl,((cT.o.alloc _).alloc _).then_ hb,rfl⟩
  case pos=>
   replace hr:=aY hr hq;refine (bI (x:=⟨#[40]⟩) HE.o ((HP.o.alloc _).alloc _) hq).mono ?_;rintro e w1 ⟨rfl,hp,hb⟩;simp only [cu];obtain ⟨hx,et,hw⟩:=Uy (E:=E) hb;have d5:=fJ w.heap.size hx;have cM:=cW (w.heap.size+1) hx;have bp:=zh hp;have a7:=b0 cT hw;clear hw hb hx hp hq;obtain ⟨bg,bi,bh⟩:=d5.o.c1;go_wp2_with fail;obtain ⟨rx,h1,hr⟩:=ag hr;refine (iC (X:=fun k=>k=w1.heap.size∨k=w.heap.size) (I:=fun lk w'=>aj w' w1.heap.size 4 #[.bool lk]∧aj w' w.heap.size 49 #[(.pointer (some ⟨E.g,0,none⟩))]) (lo:=lo+1) HE.o (zd HE.o HF.o HO.o (by omega) (by omega) (by omega) (by omega) (by omega)) rfl h1 (bp.o.alloc _) ⟨(aj.new' (by simp)),(d5.o.alloc _)⟩ (by omega) (by omega) (fun k hk=>by rcases hk with e | e <;> (simp;omega))).mono ?_;rintro e w2 hp;rcases rx with p | ⟨⟨l2,u2⟩,i2,b2⟩
   ·
    obtain ⟨hb,rfl⟩:=hp;cases hr;(try go_wp2_with fail);exact ⟨rfl,(a7.o.alloc _).trans hb (fun k hk h=>by rcases h with h | h | h;exact .inl h;all_goals first | exact h.elim | exact .inr h | exact .inr (.inl h) | (exfalso;omega)),rfl⟩
   (try dsimp only at hr);obtain ⟨sC,rfl⟩:=zf ((eZ HE.o.wt (lo+1) (fun u j hj h=>mT HE.o.wt HF.o hj h u) _ _ _ _ (by omega) bp.o.ilt (by omega)).2 _ _ h1);obtain ⟨hb,hp,v,rfl,⟨A2,c2,rfl,ae⟩,hI⟩:=hp;(try dsimp only at hp ae hI);have ep:=hb.size;(try simp at ep);have hw:ay (Xs E [w1.heap.size,w.heap.size]) w1 w2:=(zb.alloc _).trans hb (fun k _ h=>by rcases h with h | h | h <;> simp [Xs,h]);have bO:=k2 cM hw (by omega) (by simp <;> omega);have bn:=zh hp;have aE:=YtfmgdmeopakdaaaGreatDoor.b2 a7 hw (by simp <;> omega);clear bg bi bh d5 cM bp a7 hw;have pz:=zm (lo:=(w1.heap.size+1)) ae;clear ae hb hp h1;have dU:Hd (aj w2 w.heap.size 49 #[(.pointer (some ⟨E.g,0,none⟩))]):=zh (hI.2);clear hI;obtain ⟨bg,bi,bh⟩:=dU.o.c1;go_wp2_with fail;by_cases hq:oneOf (E.tok i2) [⟨#[41]⟩]=true
   case neg=>
    replace hq:=Bool.eq_false_iff.2 hq;replace hr:=aZ hr hq;subst hr;refine (ci (x:=⟨#[41]⟩) HE.o bn.o hq).mono ?_;rintro e wz ⟨rfl,hb⟩;go_wp2_with fail;exact ⟨rfl,aE.o.then_ hb,rfl⟩
   case pos=>
    replace hr:=aY hr hq;refine (bI (x:=⟨#[41]⟩) HE.o bn.o hq).mono ?_;rintro e w3 ⟨rfl,hp,hb⟩;simp only [cu];obtain ⟨hx,fK,hw⟩:=AB (E:=E) hb;obtain ⟨cC,eQ⟩:=dJ bO dU hw;have uj:=r0 pz hw;have bD:=zh hp;have be:=b0 aE hw;clear bg bi bh bO dU pz bn aE hw hb hx hp hq;obtain ⟨bg,bi,bh⟩:=eQ.o.c1;go_wp2_with fail;refine mr (E:=E) (ak HE.o bD.o (by omega)) ?_;intro w4 hb hx iV hw;obtain ⟨cS,fC⟩:=dJ cC eQ hw;have xD:=r0 uj hw;have bM:=fN bD hb;have bu:=b0 be hw;clear bg bi bh cC eQ uj bD be hw hb hx;obtain ⟨di,dh,de,dd,dc,db,da⟩:=cS.o.cells5;go_wp2_with fail;obtain rfl:=a6 hr;exact am (r:=w.heap.size+1) results97 (by rfl) cS.o.p5 (by rfl) ⟨bu.o.s5,bM.o.f6,_,rfl,_,_,rfl,(zw xD)⟩
theorem EI (args:Array Value) (w:World):(callFunc 79 args).run prog w = .ok (.enter 79 args) w:=by kernel_rfl
theorem Bs {x:PM No} {u:Unit} {s:Ps} {r:Except Int ((No×Unit)×Ps)} (h:plain x u s=some r):∃ rx,x s=some rx∧r=match rx with
    | .error p=>.error p
    | .ok (a,s')=>.ok ((a,u),s'):=by
  obtain ⟨rx,h1,h2⟩:=ag h;refine ⟨rx,h1,?_⟩;cases rx with
  | error p=>exact h2
  | ok aa=>exact (Option.some.inj h2).symm
theorem qm {E:Env} {w:World} {x:PM No} {u:Unit} {i:Nat} {b:Bool} {f:Nat} {args:Array Value} (hx:∀ r,x (i,b)=some r→Calls prog f args w (cV E eh w (lp w) r)) {r:Except Int ((No×Unit)×Ps)} (hr:plain x u (i,b)=some r) :
    Calls prog f args w (cV E eh w (fun w' y v=>lp w w' y.1 v∧True) r):=by
  obtain ⟨rx,h1,rfl⟩:=Bs hr;refine (hx rx h1).mono fun e w' h=>?_;cases rx with
  | error p=>exact h
  | ok aa=>
    obtain ⟨hb,hp,v,e1,hv⟩:=h;exact ⟨hb,hp,v,e1,hv,trivial⟩
theorem Fu (hF:GF E.ts G lo) (hO:OkG E G):One E eh (fun (_:Unit) _=>True) (plain G.typ) 79 #[(.pointer (some ⟨E.g,0,none⟩))] (lo+1) where
  call _ _ _ _ _ _ cq _ hr:=qm (fun _ h=>hO.typ h cq) hr
  fine _ _ _ dA hi:=fm (hF.typ _ _ (by omega) hi)
  same _ _ _ _ _:=trivial
  notg e:=e.elim
  ent w:=EI _ w
theorem bL (hE:eH E) (hF:GF E.ts G lo) (hO:OkG E G) (dA:lo<i) {r:Except Int (No×Ps)} (hr:eW E.ts G (i,b)=some r) (h:PS E w i b):Calls prog 98 #[(.pointer (some ⟨E.g,0,none⟩))] w (cV E eh w (lp w) r):=by
  have fU:=h.glt;have ic:=h.lt;have iS:=hE.len;have eY:=h.ilt;have HP:=zh h;have HE:=zh hE;have cT:Hd (ay (fun k=>gX E k) w w):=zh zb;have HF:=zh hF;have HO:=zh hO;clear hF hO;clear h hE;have iM:=aO;have iT:=aU;have jf:=aT;have iL:=aS;go_enter func98,ntmps98;unfold eW at hr;go_wp2_with fail;replace hr:=cZ hr;refine kT (E:=E) (bm (l:=[⟨#[40]⟩]) HE.o ((HP.o.alloc _).alloc _) (aW (n:=w.heap.size+1) [⟨#[40]⟩] (by simp) (by simp)) (ba (by simp))) ?_;intro w1 hb hx et hw;have cM:=fJ w.heap.size hx;have bp:=kG HP hb;have a7:=b0 cT hw;clear hw hb hx;by_cases hq:oneOf (E.tok i) [⟨#[40]⟩]=true
  ·
   rw [hq];(try rw [if_pos hq] at hr);go_wp2_with fail;have kR:i+1<E.ts.length:=HE.o.wt.nxt _ bp.o.ilt (cF hq);replace hr:=gV hr;refine (dN HE.o bp.o kR).mono ?_;rintro e w2 ⟨rfl,hp,hb⟩;simp only [cu];obtain ⟨hx,ep,hw⟩:=AB (E:=E) hb;have bO:=k0 cM hw;have bn:=zh hp;have aE:=b0 a7 hw;clear cM bp a7 hw hb hx hp kR hq;go_wp2_with fail;obtain ⟨rx,h1,hr⟩:=ag hr;refine (iC (X:=eh) (lo:=lo+1) HE.o (Fu HF.o HO.o) rfl h1 bn.o trivial (by omega) (by omega) (fun k hk=>hk.elim)).mono ?_;rintro e w3 hp;rcases rx with p | ⟨⟨l3,u3⟩,i3,b3⟩
   ·
    obtain ⟨hb,rfl⟩:=hp;cases hr;(try go_wp2_with fail);exact ⟨rfl,aE.o.trans hb mg,rfl⟩
   (try dsimp only at hr);obtain ⟨RJ,rfl⟩:=zf ((eZ HE.o.wt (lo+1) (fun u j hj h=>fm (HF.o.typ _ _ (by omega) h)) _ _ _ _ (by omega) bn.o.ilt (by omega)).2 _ _ h1);obtain ⟨hb,hp,v,rfl,⟨A3,c3,rfl,ae⟩,hI⟩:=hp;(try dsimp only at hp ae hI);obtain ⟨fK,hw⟩:=ez hb;have cC:=k0 bO hw;have bD:=zh hp;have be:=b0 aE hw;clear bO bn aE hw;have uj:=zm (lo:=w2.heap.size) ae;clear ae hb hp h1 hI;go_wp2_with fail;by_cases hq:oneOf (E.tok i3) [⟨#[41]⟩]=true
   case neg=>
    replace hq:=Bool.eq_false_iff.2 hq;replace hr:=aZ hr hq;subst hr;refine (ci (x:=⟨#[41]⟩) HE.o bD.o hq).mono ?_;rintro e wz ⟨rfl,hb⟩;go_wp2_with fail;exact ⟨rfl,be.o.then_ hb,rfl⟩
   case pos=>
    replace hr:=aY hr hq;refine (bI (x:=⟨#[41]⟩) HE.o bD.o hq).mono ?_;rintro e w4 ⟨rfl,hp,hb⟩;simp only [cu];obtain ⟨hx,iV,hw⟩:=AB (E:=E) hb;have cS:=k0 cC hw;have xD:=r0 uj hw;have bM:=zh hp;have bu:=b0 be hw;clear cC uj bD be hw hb hx hp hq;go_wp2_with fail;refine mr (E:=E) (ak HE.o bM.o (by omega)) ?_;intro w5 hb hx jY hw;have cN:=k0 cS hw;have wv:=r0 xD hw;have bH:=fN bM hb;have a8:=b0 bu hw;clear cS xD bM bu hw hb hx;obtain ⟨di,dh,de,dd,dc,db,da⟩:=cN.o.cells5;go_wp2_with fail;obtain rfl:=a6 hr;exact am (r:=w.heap.size) results98 (by rfl) cN.o.p5 (by rfl) ⟨a8.o.s5,bH.o.f6,_,rfl,_,_,rfl,(zw wv)⟩
  ·
   replace hq:=Bool.eq_false_iff.2 hq;rw [hq];(try rw [if_neg (Bool.eq_false_iff.1 hq)] at hr);replace hr:=bW hr;go_wp2_with fail;refine mr (E:=E) (AW HE.o bp.o) ?_;intro w2 hb hx ep hw;have bO:=k0 cM hw;have bn:=fN bp hb;have aE:=b0 a7 hw;clear cM bp a7 hw hb hx;by_cases hq:lU (E.tok i)=true
   ·
    rw [hq];(try rw [if_pos hq] at hr);clear hq;go_wp2_with fail;refine mr (E:=E) (cY HE.o bn.o) ?_;intro w3 hb hx fK hw;have cC:=k0 bO hw;have bD:=fN bn hb;have be:=b0 aE hw;clear bO bn aE hw hb hx;go_wp2_with fail;obtain ⟨rx,h1,hr⟩:=ag hr;refine (HO.o.typ h1 bD.o).mono ?_;rintro e w4 hp;rcases rx with p | ⟨x4,i4,b4⟩
    ·
     obtain ⟨hb,rfl⟩:=hp;cases hr;(try go_wp2_with fail);exact ⟨rfl,be.o.trans hb mg,rfl⟩
    (try dsimp only at hr);obtain ⟨Ea,rfl⟩:=zf ((HF.o.typ _ _ (by omega) bD.o.ilt).2 _ _ h1);obtain ⟨hb,hp,v,rfl,A4,c4,rfl,ae⟩:=hp;(try dsimp only at hp ae);obtain ⟨iV,hw⟩:=ez hb;have cS:=k0 cC hw;have bM:=zh hp;have bu:=b0 be hw;clear cC bD be hw;have pZ:=zn (lo:=w3.heap.size) ae;clear ae hb hp h1;go_wp2_with fail;refine kT (E:=E) (ak HE.o ((bM.o.alloc _).alloc _) (by omega)) ?_;intro w5 hb hx jY hw;have cN:=k0 cS hw;have jP:=fJ w4.heap.size hx;have nq:=cW (w4.heap.size+1) hx;have qy:=n0 pZ hw;have bH:=kG bM hb;have a8:=b0 bu hw;clear cS pZ bM bu hw hb hx;obtain ⟨di,dh,de,dd,dc,db,da⟩:=cN.o.cells5;go_wp2_with fail;obtain rfl:=a6 hr;exact am (r:=w.heap.size) results98 (by rfl) cN.o.p5 (by rfl) ⟨a8.o.s5,bH.o.f6,_,rfl,_,_,rfl,aJ (n:=1) nq.o.f5 (aC.one (zv (E:=E) qy)) rfl (by decide) (⟨by omega,by simp <;> omega⟩)⟩
   ·
    replace hq:=Bool.eq_false_iff.2 hq;rw [hq];(try rw [if_neg (Bool.eq_false_iff.1 hq)] at hr);clear hq;go_wp2_with fail;refine mr (E:=E) (tH HE.o bn.o) ?_;intro w3 hb hx fK hw;have cC:=k0 bO hw;have bD:=fN bn hb;have be:=b0 aE hw;clear bO bn aE hw hb hx;obtain ⟨di,dh,de,dd,dc,db,da⟩:=cC.o.cells5;go_wp2_with fail;obtain rfl:=G6 hr;exact am (r:=w.heap.size) results98 (by rfl) cC.o.p5 (by rfl) ⟨be.o.s5,bD.o.f6,_,rfl,_,_,rfl,aQ.nil_⟩
end
end Go.Proofs.YtfmgdmeopakdaaaGreatDoor
