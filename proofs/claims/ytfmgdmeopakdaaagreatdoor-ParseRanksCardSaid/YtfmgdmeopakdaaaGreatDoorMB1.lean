/- But App PaE PaS PaS2 RegH PaC ScM ScS PaW1 PaL ScM2 ScM3 PaR PaO PaW2 PaY PaW3 PaW4 PaW5 PaW6 PaA PaV PaW7 PaW8 PaW9: parts of one proof. -/
import Derived.Test.YtfmgdmeopakdaaaGreatDoorMP1
import Derived.RegionTactic
import Derived.OwnWalk
import Derived.WalkSpells
import Derived.Test.YtfmgdmeopakdaaaGreatDoorProg
import Derived.Deep.RegionLaw
import Derived.Deep.LoopGhost
import Derived.Deep.Cut
import Derived.LoopN
import Derived.Recover
import Derived.Deep.RegionHeld
import Derived.Lib.Strings
import Derived.Lib.Bytealg
import Derived.Lib.IndexMore
import Derived.Lib.IndexBytes
import Derived.Lib.Hide
import Derived.Deep.DeepCutAuto
set_option linter.unusedVariables false
set_option linter.unusedSimpArgs false
namespace Go.Proofs.YtfmgdmeopakdaaaGreatDoor
open Go Go.RowKit
theorem below_al (w:World) (o:Obj):Below w.heap.size w (w.alloc o):=(Below.refl _ _).alloc (Nat.le_refl _) o
structure But (X:Nat→Prop) (w w':World):Prop where
  os:w'.os=w.os
  tape:w'.tape=w.tape
  output:w'.output=w.output
  size:w.heap.size≤w'.heap.size
  block:∀ b,b<w.heap.size→¬ X b→w'.heap[b]? = w.heap[b]?
theorem But.refl (X:Nat→Prop) (w:World):But X w w:=⟨rfl,rfl,rfl,Nat.le_refl _,fun _ _ _=>rfl⟩
theorem But.of_below {X:Nat→Prop} {w w':World} (h:Below w.heap.size w w'):But X w w':=⟨h.os,h.tape,h.output,h.size,fun b hb _=>h.block b hb⟩
theorem But.of_grown {X:Nat→Prop} {row:Option Nat} {w w':World} (h:w.grownBy w' row) (hr:∀ b,row=some b→X b):But X w w':=
  ⟨h.os,h.tape,h.output,h.size,fun b hb hn=>h.block b hb (fun e=>hn (hr b e.symm))⟩
theorem But.trans {X Y:Nat→Prop} {a b c:World} (h:But X a b) (k:But Y b c) (hY:∀ i,i<a.heap.size→Y i→X i):But X a c:=
  ⟨k.os.trans h.os,k.tape.trans h.tape,k.output.trans h.output,Nat.le_trans h.size k.size,fun i hi hn=>
    (k.block i (Nat.lt_of_lt_of_le hi h.size) (fun e=>hn (hY i hi e))).trans (h.block i hi hn)⟩
theorem But.mono {X Y:Nat→Prop} {a b:World} (h:But X a b) (hY:∀ i,i<a.heap.size→X i→Y i):But Y a b:=
  ⟨h.os,h.tape,h.output,h.size,fun i hi hn=>h.block i hi (fun e=>hn (hY i hi e))⟩
theorem But.below {X:Nat→Prop} {B:Nat} {a b:World} (h:But X a b) (hX:∀ i,i<a.heap.size→X i→B≤i) (hB:B≤a.heap.size):Below B a b:=
  ⟨h.os,h.tape,h.output,h.size,fun i hi=>h.block i (by omega) (fun e=>by have:=hX i (by omega) e;omega)⟩
theorem But.sameOn {X:Nat→Prop} {S:Nat→Prop} {a b:World} (h:But X a b) (hS:∀ i,S i→i<a.heap.size∧¬ X i):SameOn S a b:=fun i hi=>h.block i (hS i hi).1 (hS i hi).2
theorem But.set_ {X:Nat→Prop} {a b:World} (h:But X a b) {p:Addr} (hp:a.heap.size≤p.block∨X p.block) (u:Value):But X a (b.setCell p u):=
  h.trans (Y:=fun i=>i=p.block) ⟨rfl,rfl,rfl,by simp,fun i _ hn=>Below.heap_setCell b p u i hn⟩ (fun i hi e=>by subst e;rcases hp with h | h;omega;exact h)
theorem But.alloc {X:Nat→Prop} {a b:World} (h:But X a b) (o:Obj):But X a (b.alloc o):=h.trans (Y:=fun _=>False) (But.of_below (below_al b o)) (fun _ _ h=>h.elim)
theorem But.drew {X:Nat→Prop} {a b:World} (h:But X a b):But X a b.drew:=⟨h.os,h.tape,h.output,h.size,h.block⟩
theorem But.then_ {X:Nat→Prop} {a b c:World} (h:But X a b) (k:Below b.heap.size b c):But X a c:=h.trans (Y:=fun _=>False) (But.of_below k) (fun _ _ h=>h.elim)
theorem own_same {w w':World} {base:Nat} {e:TypeId} {size n:Nat} {v:Value} {xs:List Value} (h:w.ownsRow base e size v n xs) (hs:∀ b,v.ownBlock=some b→w'.heap[b]? = w.heap[b]?):w'.ownsRow base e size v n xs:=by
  refine ⟨h.1,?_⟩;rcases h.2 with hn | ⟨g,cap,cur,rfl,hb,hgg,rest⟩
  · exact .inl hn
  · exact .inr ⟨g,cap,cur,rfl,hb,(hs g rfl).trans hgg,rest⟩
theorem own_blk {w:World} {B:Nat} {e t:TypeId} {s n:Nat} {v:Value} {x:List Value} {g:Nat} {cs:Array Value} (h:w.ownsRow B e s v n x) (hb:Blk w g t cs) (he:e≠t):v.ownBlock≠some g:=by
  intro hb1;rcases h.2 with ⟨rfl,_⟩ | ⟨g,cap,cur,rfl,_,hg,_⟩
  · cases hb1
  cases hb1;unfold Blk at hb;rw [hg] at hb;simp only [Option.some.injEq,Obj.cells.injEq] at hb;exact he hb.2.1
theorem Blk.row {w:World} {S:Nat→Prop} {g size n:Nat} {t:TypeId} {cs:Array Value} (h:Blk w g t cs) (hs:cs.size=n * size) (hn:n≤maxLen) (hS:S g):Row w S size (.slice (some ⟨g,0,none⟩) n n) n cs.toList:=by
  refine ⟨by simpa using hs,_,_,rfl,Nat.le_refl _,hn,fun e=>by simp at e,fun _=>⟨g,0,rfl,hS,fun j u hj=>?_⟩⟩;rw [Nat.zero_add,h.cell j]
  simpa using hj
theorem Blk.new' {w:World} {n:Nat} {t:TypeId} {cs:Array Value} (h:n=w.heap.size):Blk (w.alloc (.cells cs t)) n t cs:=by subst h;exact Blk.new w t cs
theorem own_blkA {w:World} {g n size base:Nat} {t:TypeId} {cs:Array Value} (h:Blk w g t cs) (hb:base≤g) (hs:cs.size=n * size) (hm:n≤maxLen):w.ownsRow base t size (.slice (some ⟨g,0,none⟩) n n) n cs.toList:=by
  exact ⟨by simpa using hs,.inr ⟨g,n,cs,rfl,hb,h,Nat.le_refl _,hm,hs,List.take_of_length_le (by rw [Array.length_toList,hs];exact Nat.le_refl _)⟩⟩
theorem zb {S : Nat → Prop} {w : World} : But S w w := But.refl _ _
section
variable {P:Program} (w:World)
theorem run_append_of_nil (base:Nat) (t ty e:TypeId) (i:TypeInfo) (size:Nat) (ht:P.underlying t=some (.slice e)) (hi:P.info? e=some i)
    (v:Value) (n:Nat) (xs:List Value) (hown:w.ownsRow base e size v n xs) (c:Nat):(Builtin.append_ #[t,t] ty #[v,.slice none 0 c]).run P w = .ok v w:=by
  rcases hown.2 with ⟨rfl,rfl⟩ | ⟨g,cap,cur,rfl,_,_,hnc,_⟩
  · simp [Builtin.append_,run_underlying ht,sizeOf,typeInfo,hi,Builtin.lenOf,Builtin.firstCells]
  · simp [Builtin.append_,run_underlying ht,sizeOf,typeInfo,hi,Builtin.lenOf,Builtin.firstCells,hnc,storeCells]
theorem run_append_row (base:Nat) (t ty e:TypeId) (i:TypeInfo) (z:Value) (size bytes:Nat) (ht:P.underlying t=some (.slice e)) (hi:P.info? e=some i) (hz:i.zero=some z)
    (hsize:i.size=size) (hby:i.bytes=bytes) (hzs:z.cells.size=size) (hsz:0<size)
    (v:Value) (n:Nat) (xs:List Value) (hown:w.ownsRow base e size v n xs)
    (S:Nat→Prop) (x:Value) (m:Nat) (news:List Value) (hr:Row w S size x m news) (h1:∀ u ∈ news,u.oneCell'=true)
    (h63:n+m≤maxLen) (hbytes:(n+m) * bytes≤140737488355328) (hbase:base≤w.heap.size) :
    ∃ v' w',(Builtin.append_ #[t,t] ty #[v,x]).run P w = .ok v' w'∧w'.ownsRow base e size v' (n+m) (xs ++ news)∧w.grownBy w' v.ownBlock∧
      (v' = .slice none 0 0↔v = .slice none 0 0∧m=0)∧(v'.ownBlock=v.ownBlock∨v'.ownBlock=some w.heap.size):=by
  obtain ⟨hl,A,c,rfl,hmc,hcm,h0,hc⟩:=hr;rcases A with _ | ad
  · have hc0:=h0 rfl
    subst hc0;(obtain rfl:m=0:=by omega);have hn:news=[]:=List.eq_nil_of_length_eq_zero (by simpa using hl);subst hn;exact ⟨v,w,run_append_of_nil w base t ty e i size ht hi v n xs hown 0,by simpa using hown,World.grownBy.refl w _,by simp,.inl rfl⟩
  · have hcells:∀ j u,news[j]? = some u→w.cell? (ad.add j)=some u:=by
      intro j u hu;rcases Nat.eq_zero_or_pos m with h0 | h0
      · subst h0
        have hn:news=[]:=List.eq_nil_of_length_eq_zero (by simpa using hl);subst hn;simp at hu
      · obtain ⟨b,o,h,_,hk⟩:=hc h0
        injection h with h
        subst h;have:=hk j u hu;unfold Addr.add;split
        · rename_i hj;subst hj;exact this
        · exact this
    exact run_append_own_at (P:=P) w base t ty e i z size bytes ht hi hz hsize hby hzs hsz v n xs hown ad m c news hl hcells h1 h63 hbytes hbase
theorem wp_append_row {o:Oper} {a:Act} {K:Act→World→Prop} {Q:Exit→Act→World→Prop} (s x:Operand) (t:TypeId)
    (ho:o.op = .call { callee:=.builtin .append,args:=#[s,x],argTypes:=#[t,t] })
    (base:Nat) (e:TypeId) (i:TypeInfo) (z:Value) (size bytes:Nat) (ht:P.underlying t=some (.slice e)) (hi:P.info? e=some i) (hz:i.zero=some z)
    (hsize:i.size=size) (hby:i.bytes=bytes) (hzs:z.cells.size=size) (hsz:0<size)
    (v:Value) (n:Nat) (xs:List Value) (hs:a.eval s=v) (hown:w.ownsRow base e size v n xs)
    (S:Nat→Prop) (vx:Value) (m:Nat) (news:List Value) (hx:a.eval x=vx) (hr:Row w S size vx m news) (h1:∀ u ∈ news,u.oneCell'=true)
    (h63:n+m≤maxLen) (hbytes:(n+m) * bytes≤140737488355328) (hbase:base≤w.heap.size)
    (h:∀ v' w',w'.ownsRow base e size v' (n+m) (xs ++ news)→w.grownBy w' v.ownBlock→(v' = .slice none 0 0↔v = .slice none 0 0∧m=0)→(v'.ownBlock=v.ownBlock∨v'.ownBlock=some w.heap.size)→K (a.put o.dst v') w'):o.wp P a w K Q:=by
  obtain ⟨v',w',hrun,h2,h3,h4,h5⟩:=run_append_row (P:=P) w base t o.type e i z size bytes ht hi hz hsize hby hzs hsz v n xs hown S vx m news hr h1 h63 hbytes hbase;unfold Oper.wp execOp;simp only [ho,resolve,invoke,builtin,Sem.run_bind,Sem.run_pure,Result.andThen_ok,List.map_toArray,List.map_cons,List.map_nil,hs,hx,hrun];exact h v' w' h2 h3 h4 h5
theorem wpList_append_row {ops:Array Oper} {rest:List Oper} {o:Oper} {a:Act} {Q:Exit→Act→World→Prop} (hgd:o.guard=none) (s x:Operand) (t:TypeId)
    (ho:o.op = .call { callee:=.builtin .append,args:=#[s,x],argTypes:=#[t,t] })
    (base:Nat) (e:TypeId) (i:TypeInfo) (z:Value) (size bytes:Nat) (ht:P.underlying t=some (.slice e)) (hi:P.info? e=some i) (hz:i.zero=some z)
    (hsize:i.size=size) (hby:i.bytes=bytes) (hzs:z.cells.size=size) (hsz:0<size)
    (v:Value) (n:Nat) (xs:List Value) (hs:a.eval s=v) (hown:w.ownsRow base e size v n xs)
    (S:Nat→Prop) (vx:Value) (m:Nat) (news:List Value) (hx:a.eval x=vx) (hr:Row w S size vx m news) (h1:∀ u ∈ news,u.oneCell'=true)
    (h63:n+m≤maxLen) (hbytes:(n+m) * bytes≤140737488355328) (hbase:base≤w.heap.size)
    (h:∀ v' w',w'.ownsRow base e size v' (n+m) (xs ++ news)→w.grownBy w' v.ownBlock→(v' = .slice none 0 0↔v = .slice none 0 0∧m=0)→(v'.ownBlock=v.ownBlock∨v'.ownBlock=some w.heap.size)→wpList P ops Q rest (a.put o.dst v') w') :
    wpList P ops Q (o :: rest) a w:=
  wpList_plain hgd fun _ hK=>wp_append_row w s x t ho base e i z size bytes ht hi hz hsize hby hzs hsz v n xs hs hown S vx m news hx hr h1 h63 hbytes hbase fun v' w' h2 h3 h4 h5=>hK _ _ (h v' w' h2 h3 h4 h5)
theorem step_append_row {ops:Array Oper} {o:Oper} {a:Act} {K:Act→World→Prop} {Q:Exit→Act→World→Prop} {E:Prop} (hgd:o.guard=none) (s x:Operand) (t:TypeId)
    (ho:o.op = .call { callee:=.builtin .append,args:=#[s,x],argTypes:=#[t,t] })
    (base:Nat) (e:TypeId) (i:TypeInfo) (z:Value) (size bytes:Nat) (ht:P.underlying t=some (.slice e)) (hi:P.info? e=some i) (hz:i.zero=some z)
    (hsize:i.size=size) (hby:i.bytes=bytes) (hzs:z.cells.size=size) (hsz:0<size)
    (v:Value) (n:Nat) (xs:List Value) (hs:a.eval s=v) (hown:w.ownsRow base e size v n xs)
    (S:Nat→Prop) (vx:Value) (m:Nat) (news:List Value) (hx:a.eval x=vx) (hr:Row w S size vx m news) (h1:∀ u ∈ news,u.oneCell'=true)
    (h63:n+m≤maxLen) (hbytes:(n+m) * bytes≤140737488355328) (hbase:base≤w.heap.size)
    (h:∀ v' w',w'.ownsRow base e size v' (n+m) (xs ++ news)→w.grownBy w' v.ownBlock→(v' = .slice none 0 0↔v = .slice none 0 0∧m=0)→(v'.ownBlock=v.ownBlock∨v'.ownBlock=some w.heap.size)→K (a.put o.dst v') w') :
    if Region.wanted o (yielded ops a.tmps)=true then Oper.wp P o a w K Q else E:=by
  (have hw:Region.wanted o (yielded ops a.tmps)=true:=by simp [Region.wanted,hgd]);rw [if_pos hw];exact wp_append_row w s x t ho base e i z size bytes ht hi hz hsize hby hzs hsz v n xs hs hown S vx m news hx hr h1 h63 hbytes hbase h
end
def OwnRes (w:World) (e:TypeId) (size n:Nat) (xs:List Value) (nil:Prop) (en:Ending) (w':World):Prop:=
  ∃ v',en = .returned v'∧w'.ownsRow w.heap.size e size v' n xs∧(v' = .slice none 0 0↔nil)∧Below w.heap.size w w'
structure Env where
  g:Nat
  a:Nat
  o:Nat
  cap:Nat
  ts:List Tk
def Env.tok (E:Env) (i:Nat):Tk:=tokAt E.ts i
structure PS (E:Env) (w:World) (i:Nat) (b:Bool):Prop where
  blk:Blk w E.g 66 #[(.slice (some ⟨E.a,E.o,none⟩) E.ts.length E.cap),.int .i64 i,.bool b]
  tok:∀ j,j<E.ts.length→w.cell? ⟨E.a,E.o+j * 4,none⟩=some (.int .i64 (E.tok j).k)∧w.cell? ⟨E.a,E.o+j * 4+1,none⟩=some (.int .i64 (E.tok j).fr)∧
    w.cell? ⟨E.a,E.o+j * 4+2,none⟩=some (.int .i64 (E.tok j).to)∧w.cell? ⟨E.a,E.o+j * 4+3,none⟩=some (.string (E.tok j).tx)
  ne:E.a≠E.g
  lt:E.a<w.heap.size
  ilt:i<E.ts.length
structure EOk (E:Env):Prop where
  wt:WT E.ts
  len:E.ts.length≤1000000
  cap:E.ts.length≤E.cap
section
variable {E:Env} {w w':World} {i j:Nat} {b c:Bool}
theorem PS.glt (h:PS E w i b):E.g<w.heap.size:=h.blk.lt
theorem PS.but (h:PS E w i b) (hb:But (fun k=>k=E.g) w w') (hg:Blk w' E.g 66 #[(.slice (some ⟨E.a,E.o,none⟩) E.ts.length E.cap),.int .i64 j,.bool c]) (hj:j<E.ts.length):PS E w' j c:=
  ⟨hg,fun k hk=>by
    have e:w'.heap[E.a]? = w.heap[E.a]?:=hb.block E.a h.lt h.ne;obtain ⟨h1,h2,h3,h4⟩:=h.tok k hk
    exact ⟨(World.cell?_of_block (a:=⟨E.a,_,none⟩) e).trans h1,(World.cell?_of_block (a:=⟨E.a,_,none⟩) e).trans h2,(World.cell?_of_block (a:=⟨E.a,_,none⟩) e).trans h3,(World.cell?_of_block (a:=⟨E.a,_,none⟩) e).trans h4⟩,
   h.ne,Nat.lt_of_lt_of_le h.lt hb.size,hj⟩
theorem PS.below (h:PS E w i b) (hb:Below w.heap.size w w'):PS E w' i b:=h.but (But.of_below hb) (h.blk.below hb h.glt) h.ilt
theorem PS.set1 (h:PS E w i b) (hj:j<E.ts.length):PS E (w.setCell ⟨E.g,1,none⟩ (.int .i64 j)) j b:=
  h.but ((But.refl (fun k=>k=E.g) w).set_ (p:=⟨E.g,1,none⟩) (.inr rfl) _) (by simpa using h.blk.set_ 1 (.int .i64 j)) hj
theorem PS.set2 (h:PS E w i b) (c:Bool):PS E (w.setCell ⟨E.g,2,none⟩ (.bool c)) i c:=
  h.but ((But.refl (fun k=>k=E.g) w).set_ (p:=⟨E.g,2,none⟩) (.inr rfl) _) (by simpa using h.blk.set_ 2 (.bool c)) h.ilt
end
def tokV (t:Tk):Value:=.agg #[.int .i64 t.k,.int .i64 t.fr,.int .i64 t.to,.string t.tx]
/-! ### nodes -/
mutual
def NoR (w:World) (S:Nat→Prop):No→List Value→Prop
  | .mk k fr zto tx ks,cs=>∃ vk xs,cs=[.int .i64 k,.int .i64 fr,.int .i64 zto,.string tx,vk]∧Row w S 5 vk ks.length xs∧NosR w S ks xs
def NosR (w:World) (S:Nat→Prop):List No→List Value→Prop
  | [],cs=>cs=[]
  | t :: ts,cs=>∃ c1 c2,cs=c1 ++ c2∧NoR w S t c1∧NosR w S ts c2
end
def RowN (w:World) (S:Nat→Prop) (v:Value) (ks:List No):Prop:=∃ xs,Row w S 5 v ks.length xs∧NosR w S ks xs
mutual
theorem NoR.keep {w w':World} {S S':Nat→Prop} (hs:SameOn S w w') (h1:∀ b,S b→S' b):∀ {n:No} {cs:List Value},NoR w S n cs→NoR w' S' n cs
  | .mk k fr zto tx ks,cs,h=>by
    simp only [NoR] at h ⊢;obtain ⟨vk,xs,rfl,a,b⟩:=h;exact ⟨vk,xs,rfl,(a.keep hs).more h1,NosR.keep hs h1 b⟩
theorem NosR.keep {w w':World} {S S':Nat→Prop} (hs:SameOn S w w') (h1:∀ b,S b→S' b):∀ {ns:List No} {cs:List Value},NosR w S ns cs→NosR w' S' ns cs
  | [],cs,h=>by simp only [NosR] at h ⊢;exact h
  | t :: ts,cs,h=>by
    simp only [NosR] at h ⊢;obtain ⟨c1,c2,e,a,b⟩:=h;exact ⟨c1,c2,e,NoR.keep hs h1 a,NosR.keep hs h1 b⟩
end
section
variable {w w':World} {S S':Nat→Prop}
theorem RowN.keep {v:Value} {ks:List No} (h:RowN w S v ks) (hs:SameOn S w w') (h1:∀ b,S b→S' b):RowN w' S' v ks:=by
  obtain ⟨xs,a,b⟩:=h;exact ⟨xs,(a.keep hs).more h1,b.keep hs h1⟩
theorem NoR.len:∀ {n:No} {cs:List Value},NoR w S n cs→cs.length=5
  | .mk ..,cs,h=>by simp only [NoR] at h;obtain ⟨_,_,rfl,_⟩:=h;rfl
theorem NosR.len:∀ {ns:List No} {cs:List Value},NosR w S ns cs→cs.length=ns.length * 5
  | [],cs,h=>by simp only [NosR] at h;subst h;rfl
  | t :: ts,cs,h=>by
    simp only [NosR] at h;obtain ⟨c1,c2,rfl,a,b⟩:=h;rw [List.length_append,a.len,b.len,List.length_cons];omega
theorem NosR.append:∀ {ts us:List No} {cs ds:List Value},NosR w S ts cs→NosR w S us ds→NosR w S (ts ++ us) (cs ++ ds)
  | [],us,cs,ds,h,h'=>by simp only [NosR] at h;subst h;simpa using h'
  | t :: ts,us,cs,ds,h,h'=>by
    simp only [NosR,List.cons_append] at h ⊢;obtain ⟨c1,c2,rfl,a,b⟩:=h;exact ⟨c1,c2 ++ ds,by simp,a,b.append h'⟩
theorem NosR.one {t:No} {cs:List Value} (h:NoR w S t cs):NosR w S [t] cs:=by
  simp only [NosR];exact ⟨cs,[],by simp,h,rfl⟩
theorem NosR.nil_:NosR w S [] []:=by simp [NosR]
theorem NosR.cons_ {t:No} {ts:List No} {cs ds:List Value} (h:NoR w S t cs) (h':NosR w S ts ds):NosR w S (t :: ts) (cs ++ ds):=by
  simp only [NosR];exact ⟨cs,ds,rfl,h,h'⟩
theorem NosR.at_:∀ {ts:List No} {cs:List Value} (_:NosR w S ts cs) (i:Nat) (h:i<ts.length),NoR w S ts[i] ((cs.drop (i * 5)).take 5)
  | t :: ts,cs,h,0,_=>by
    simp only [NosR] at h;obtain ⟨c1,c2,rfl,a,b⟩:=h
    simpa [List.take_append_of_le_length,a.len,List.take_of_length_le] using a
  | t :: ts,cs,h,i+1,hi=>by
    simp only [NosR] at h;obtain ⟨c1,c2,rfl,a,b⟩:=h;have:=b.at_ i (by simpa using hi)
    have e:(c1 ++ c2).drop ((i+1) * 5)=c2.drop (i * 5):=by
      rw [List.drop_append,List.drop_eq_nil_of_le (by rw [a.len];omega),a.len,List.nil_append];congr 1;omega
    rw [e]
    simpa using this
theorem NoR.forms {n:No} {cs:List Value} (h:NoR w S n cs):∃ A c,cs=[.int .i64 n.k,.int .i64 n.fr,.int .i64 n.to,.string n.tx,.slice A n.ks.length c]∧RowN w S (.slice A n.ks.length c) n.ks:=by
  obtain ⟨k,fr,zto,tx,ks⟩:=n;simp only [NoR] at h;obtain ⟨vk,xs,rfl,a,b⟩:=h;obtain ⟨A,c,rfl,_⟩:=a.form;exact ⟨A,c,rfl,xs,a,b⟩
theorem NoR.mk_ {n:No} {v:Value} (h:RowN w S v n.ks):NoR w S n [.int .i64 n.k,.int .i64 n.fr,.int .i64 n.to,.string n.tx,v]:=by
  obtain ⟨k,fr,zto,tx,ks⟩:=n;obtain ⟨xs,a,b⟩:=h;simp only [NoR];exact ⟨v,xs,rfl,a,b⟩
theorem RowN.form {v:Value} {ks:List No} (h:RowN w S v ks):∃ A c,v = .slice A ks.length c:=by
  obtain ⟨xs,a,_⟩:=h;obtain ⟨A,c,rfl,_⟩:=a.form;exact ⟨A,c,rfl⟩
theorem RowN.nil_:RowN w S (.slice none 0 0) []:=⟨[],Row.nil_,NosR.nil_⟩
end
def noV (n:No) (v:Value):Value:=.agg #[.int .i64 n.k,.int .i64 n.fr,.int .i64 n.to,.string n.tx,v]
def faultV (p:Int):Value:=.iface 63 (.agg #[.int .i64 4,.string ⟨#[]⟩,.int .i64 p])
set_option maxRecDepth 100000
set_option maxHeartbeats 1000000
def badC (p:Int):List PanicEntry:=[{ v:=faultV p,recovered:=false }]
theorem tfield0 (c0 c1 c2 c3:Value) (w:World):(Instr.field 36 (.agg #[c0,c1,c2,c3]) 0).run Tryz.prog w = .ok c0 w:=by kernel_rfl
theorem tfield1 (c0 c1 c2 c3:Value) (w:World):(Instr.field 36 (.agg #[c0,c1,c2,c3]) 1).run Tryz.prog w = .ok c1 w:=by kernel_rfl
theorem tfield2 (c0 c1 c2 c3:Value) (w:World):(Instr.field 36 (.agg #[c0,c1,c2,c3]) 2).run Tryz.prog w = .ok c2 w:=by kernel_rfl
theorem tfield3 (c0 c1 c2 c3:Value) (w:World):(Instr.field 36 (.agg #[c0,c1,c2,c3]) 3).run Tryz.prog w = .ok c3 w:=by kernel_rfl
theorem panics (v:Value) (w:World):(Instr.panic (.iface 63 v)).run Tryz.prog w = .halt (.panic (.iface 63 v)) w:=by kernel_rfl
section
variable {E:Env} {w:World} {i:Nat} {b:Bool} {l:List ByteArray} {v:Value} {S:Nat→Prop}
theorem now_calls (hE:EOk E) (h:PS E w i b):Calls Tryz.prog 35 #[(.pointer (some ⟨E.g,0,none⟩))] w fun e w'=>e = .returned (tokV (E.tok i))∧Below w.heap.size w w':=by
  obtain ⟨t0,t1,t2,t3⟩:=h.tok i h.ilt;have q0:=h.blk.cell 0;have q1:=h.blk.cell 1;have q2:=h.blk.cell 2;have qf:=h.blk.frozen 1;have hgl:=h.glt;have hal:=h.lt;have hil:=h.ilt;have hln:=hE.len;have hne:=h.ne;simp at q0 q1 q2;clear h hE q2 qf;have hf0:=tfield0;have hf1:=tfield1;have hf2:=tfield2;have hf3:=tfield3;go_enter Tryz.func35,Tryz.ntmps35;go_wp2_with fail
  go_region
  all_goals
    go_wp2_with fail;exact bodyPost_ret (v:=tokV (E.tok i)) (by simp [results,Tryz.results35,go_sem,tokV]) rfl ⟨rfl,(below_al _ _).drew⟩
theorem bad_calls (hE:EOk E) (h:PS E w i b):Calls Tryz.prog 36 #[(.pointer (some ⟨E.g,0,none⟩))] w fun e w'=>e = .panicked (badC (E.tok i).fr)∧Below w.heap.size w w':=by
  have hpn:=panics;have HP:=zh h;have HE:=zh hE;clear h hE;have hf0:=tfield0;have hf1:=tfield1;have hf2:=tfield2;have hf3:=tfield3;go_enter Tryz.func36,Tryz.ntmps36;go_wp2_with fail;refine (now_calls HE.out HP.out).mono ?_;rintro e w' ⟨rfl,hb⟩;simp only [tokV];have HB:=zh hb;clear hb;go_wp2_with fail;exact ⟨rfl,rfl,HB.out⟩
theorem named_calls (hE:EOk E) (h:PS E w i b):Calls Tryz.prog 74 #[(.pointer (some ⟨E.g,0,none⟩))] w fun e w'=>e = .returned (.bool (decide ((E.tok i).k=1)))∧Below w.heap.size w w':=by
  have HP:=zh h;have HE:=zh hE;clear h hE;have hf0:=tfield0;have hf1:=tfield1;have hf2:=tfield2;have hf3:=tfield3;go_enter Tryz.func74,Tryz.ntmps74;go_wp2_with fail;refine (now_calls HE.out HP.out).mono ?_;rintro e w' ⟨rfl,hb⟩;simp only [tokV];have HB:=zh hb;clear hb;go_wp2_with fail;go_ret;exact ⟨rfl,HB.out⟩
theorem from_calls (hE:EOk E) (h:PS E w i b):Calls Tryz.prog 94 #[(.pointer (some ⟨E.g,0,none⟩))] w fun e w'=>e = .returned (.int .i64 (E.tok i).fr)∧Below w.heap.size w w':=by
  have HP:=zh h;have HE:=zh hE;clear h hE;have hf0:=tfield0;have hf1:=tfield1;have hf2:=tfield2;have hf3:=tfield3;go_enter Tryz.func94,Tryz.ntmps94;go_wp2_with fail;refine (now_calls HE.out HP.out).mono ?_;rintro e w' ⟨rfl,hb⟩;simp only [tokV];have HB:=zh hb;clear hb;go_wp2_with fail;go_ret;exact ⟨rfl,HB.out⟩
/-! ### signs and words -/
theorem bytes_eq (a b:ByteArray):(a.toList == b.toList)=decide (a=b):=by
  rw [Bool.eq_iff_iff];simp only [beq_iff_eq,decide_eq_true_eq];refine ⟨fun h=>?_,fun h=>by rw [h]⟩;rw [ByteArray.toList_eq,ByteArray.toList_eq] at h;cases a;cases b;simp only [ByteArray.mk.injEq];exact Array.toList_inj.1 h
theorem strs_at {k:Nat} (hr:Row w S 1 v l.length (l.map .string)) (hk:k<l.length):∃ g o cap,v = .slice (some ⟨g,o,none⟩) l.length cap∧S g∧w.cell? ⟨g,o+k,none⟩=some (.string l[k]):=by
  obtain ⟨h1,A,cap,hsl,h2,h3,h0,h4⟩:=hr;obtain ⟨g,o,rfl,hSb,hcc⟩:=h4 (by omega);exact ⟨g,o,cap,hsl,hSb,hcc k _ (by rw [List.getElem?_map,List.getElem?_eq_getElem hk];rfl)⟩
theorem sort_calls {t:Tk} (hr:Row w S 1 v l.length (l.map .string)) (hS:Old S w) :
    Calls Tryz.prog 75 #[tokV t,v] w fun e w'=>e = .returned (.bool (oneOf t l))∧Below w.heap.size w w':=by
  obtain ⟨A1,c1,rfl,hlen⟩:=hr.form;obtain ⟨tk,tf,tt,tx⟩:=t;have HR:=zh hr;have HS:=zh hS;clear hr hS;simp only [tokV];have hf0:=tfield0;have hf1:=tfield1;have hf2:=tfield2;have hf3:=tfield3;go_enter Tryz.func75,Tryz.ntmps75;by_cases hk:tk=5∨tk=4
  case neg=>
    have hq:oneOf ⟨tk,tf,tt,tx⟩ l=false:=by
      simp only [oneOf,Bool.and_eq_false_iff,Bool.or_eq_false_iff,decide_eq_false_iff_not];exact .inl ⟨fun e=>hk (.inl e),fun e=>hk (.inr e)⟩
    (have h5:(tk != 5)=true:=by simpa using fun e=>hk (.inl e));(have h4:(tk != 4)=true:=by simpa using fun e=>hk (.inr e));have HQ:=zh hq;clear hk hq;go_wp2_with fail;go_ret;exact ⟨by rw [HQ.out];rfl,below_al _ _⟩
  case pos=>
    have HQ:Hid (oneOf ⟨tk,tf,tt,tx⟩ l=oneTx ⟨tk,tf,tt,tx⟩ l):=by
      (have:(decide (tk=5) || decide (tk=4))=true:=by simpa using hk);unfold oneOf;rw [this,Bool.true_and];exact zh rfl
    rcases hk with rfl | rfl
    all_goals
      go_wp2_with fail
      go_loopg [17] l.length (fun m s17 wr=>∃ j:Nat,m=l.length - j∧j≤l.length∧s17 = .int .i64 j∧wr=w.alloc (.cells #[.int .i64 _,.int .i64 tf,.int .i64 tt,.string tx] 36)∧Hid ((l.take j).any (fun x=>decide (tx=x))=false))
      case atStart=>exact ⟨0,by simp,by omega,rfl,rfl,by simp [Hid]⟩
      case round=>
        obtain ⟨j,rfl,hj,rfl,rfl,HT⟩:=hrel;by_cases hlt:j<l.length
        · obtain ⟨g,o,cp,hv,hSg,hc⟩:=strs_at HR.out hlt
          cases hv;have hgl:=HS.out g hSg;(have hj3:(j:Int)<(l.length:Int):=by omega);obtain ⟨x,hx⟩:∃ x,l[j]=x:=⟨_,rfl⟩;rw [hx] at hc;clear hSg;by_cases he:tx=x
          · have hbe:(tx.toList == x.toList)=true:=by rw [bytes_eq];simpa using he
            have HY:Hid (oneTx ⟨0,tf,tt,tx⟩ l=true):=by
              unfold oneTx;exact zh (List.any_eq_true.2 ⟨x,hx ▸ List.getElem_mem hlt,by simpa using he⟩)
            clear he hx;go_wp2_with fail;go_ret;exact ⟨by rw [HQ.out.trans HY.out];rfl,below_al _ _⟩
          · have hbe:(tx.toList == x.toList)=false:=by rw [bytes_eq];simpa using he
            have HN:Hid ((l.take (j+1)).any (fun x=>decide (tx=x))=false):=by
              rw [List.take_succ_eq_append_getElem hlt,List.any_append,HT.out,hx];exact zh (by simpa using he)
            clear he hx;go_wp2_with fail
            go_roundg (l.length - (j+1))
            case measure=>omega
            case rel=>exact ⟨j+1,rfl,by omega,by go_num,rfl,HN⟩
        · obtain rfl:j=l.length:=by omega
          have HY:Hid (oneTx ⟨0,tf,tt,tx⟩ l=false):=by
            have:=HT.out;rw [List.take_of_length_le (Nat.le_refl _)] at this;exact zh this
          clear hlt hj;go_wp2_with fail;go_ret;exact ⟨by rw [HQ.out.trans HY.out];rfl,below_al _ _⟩
theorem is_calls (hE:EOk E) (h:PS E w i b) (hr:Row w S 1 v l.length (l.map .string)) (hS:Old S w) :
    Calls Tryz.prog 60 #[(.pointer (some ⟨E.g,0,none⟩)),v] w fun e w'=>e = .returned (.bool (oneOf (E.tok i) l))∧Below w.heap.size w w':=by
  obtain ⟨A1,c1,rfl,hlen⟩:=hr.form;have HP:=zh h;have HE:=zh hE;clear h hE;have HR:=zh hr;have HS:=zh hS;clear hr hS;have hf0:=tfield0;have hf1:=tfield1;have hf2:=tfield2;have hf3:=tfield3;go_enter Tryz.func60,Tryz.ntmps60;go_wp2_with fail;refine (now_calls HE.out HP.out).mono ?_;rintro e w1 ⟨rfl,hb1⟩;have HB1:=zh hb1;clear hb1;go_wp2_with fail;refine (sort_calls (l:=l) (S:=S) (HR.out.keep (SameOn.of_below HB1.out HS.out)) (HS.out.below HB1.out)).mono ?_;rintro e w2 ⟨rfl,hb2⟩;have HB2:Hid (Below w.heap.size w w2):=HB1.out.trans (hb2.mono HB1.out.size);clear hb2;go_wp2_with fail;go_ret;exact ⟨rfl,HB2.out⟩
theorem strs_new {w:World} {n:Nat} (l:List ByteArray) (hn:n=w.heap.size) (hl:l.length≤100):Row (w.alloc (.cells (l.map Value.string).toArray 9)) (fun b=>b=n) 1 (.slice (some ⟨n,0,none⟩) l.length l.length) l.length (l.map .string):=by
  subst hn;have h:=(Blk.new w 9 (l.map Value.string).toArray).row (S:=fun b=>b=w.heap.size) (n:=l.length) (size:=1) (by simp) (by unfold maxLen;omega) rfl
  simpa using h
theorem old_new {w:World} {n:Nat} {o:Obj} (hn:n=w.heap.size):Old (fun b=>b=n) (w.alloc o):=fun b hb=>by simp;omega
theorem Blk.cells4 {w:World} {g:Nat} {t:TypeId} {c0 c1 c2 c3:Value} (h:Blk w g t #[c0,c1,c2,c3]) :
    w.cell? ⟨g,0,none⟩=some c0∧w.cell? ⟨g,1,none⟩=some c1∧w.cell? ⟨g,2,none⟩=some c2∧w.cell? ⟨g,3,none⟩=some c3∧(∀ i,w.frozen? ⟨g,i,none⟩=false)∧g<w.heap.size:=
  ⟨h.cell 0,h.cell 1,h.cell 2,h.cell 3,h.frozen,h.lt⟩
theorem Blk.cells5 {w:World} {g:Nat} {t:TypeId} {c0 c1 c2 c3 c4:Value} (h:Blk w g t #[c0,c1,c2,c3,c4]) :
    w.cell? ⟨g,0,none⟩=some c0∧w.cell? ⟨g,1,none⟩=some c1∧w.cell? ⟨g,2,none⟩=some c2∧w.cell? ⟨g,3,none⟩=some c3∧w.cell? ⟨g,4,none⟩=some c4∧(∀ i,w.frozen? ⟨g,i,none⟩=false)∧g<w.heap.size:=
  ⟨h.cell 0,h.cell 1,h.cell 2,h.cell 3,h.cell 4,h.frozen,h.lt⟩
theorem PS.cells {i:Nat} (h:PS E w i b):w.cell? ⟨E.g,0,none⟩=some (.slice (some ⟨E.a,E.o,none⟩) E.ts.length E.cap)∧w.cell? ⟨E.g,1,none⟩=some (.int .i64 i)∧w.cell? ⟨E.g,2,none⟩=some (.bool b)∧(∀ i,w.frozen? ⟨E.g,i,none⟩=false)∧E.g<w.heap.size:=
  ⟨h.blk.cell 0,h.blk.cell 1,h.blk.cell 2,h.blk.frozen,h.glt⟩
/-! ### a struct written cell by cell -/
theorem PS.far {i:Nat} (h:PS E w i b) {p:Addr} (h1:p.block≠E.g) (h2:p.block≠E.a) (u:Value):PS E (w.setCell p u) i b:=
  ⟨h.blk.far (fun e=>h1 e.symm) u,fun j hj=>by
    have e:(w.setCell p u).heap[E.a]? = w.heap[E.a]?:=Below.heap_setCell w p u E.a (fun e=>h2 e.symm);obtain ⟨h1,h2,h3,h4⟩:=h.tok j hj
    exact ⟨(World.cell?_of_block (a:=⟨E.a,_,none⟩) e).trans h1,(World.cell?_of_block (a:=⟨E.a,_,none⟩) e).trans h2,(World.cell?_of_block (a:=⟨E.a,_,none⟩) e).trans h3,(World.cell?_of_block (a:=⟨E.a,_,none⟩) e).trans h4⟩,
   h.ne,by simpa using h.lt,h.ilt⟩
theorem PS.far4 {i r:Nat} (h:PS E w i b) (h1:r≠E.g) (h2:r≠E.a) (u0 u1 u2 u3:Value):PS E ((((w.setCell ⟨r,0,none⟩ u0).setCell ⟨r,1,none⟩ u1).setCell ⟨r,2,none⟩ u2).setCell ⟨r,3,none⟩ u3) i b:=
  (((h.far h1 h2 _).far h1 h2 _).far h1 h2 _).far h1 h2 _
theorem PS.far5 {i r:Nat} (h:PS E w i b) (h1:r≠E.g) (h2:r≠E.a) (u0 u1 u2 u3 u4:Value):PS E (((((w.setCell ⟨r,0,none⟩ u0).setCell ⟨r,1,none⟩ u1).setCell ⟨r,2,none⟩ u2).setCell ⟨r,3,none⟩ u3).setCell ⟨r,4,none⟩ u4) i b:=
  (h.far4 h1 h2 _ _ _ _).far h1 h2 _
theorem PS.alloc {i:Nat} (h:PS E w i b) (o:Obj):PS E (w.alloc o) i b:=h.below (below_al _ _)
theorem But.set4 {X:Nat→Prop} {a c:World} {r:Nat} (h:But X a c) (hr:a.heap.size≤r∨X r) (u0 u1 u2 u3:Value):But X a ((((c.setCell ⟨r,0,none⟩ u0).setCell ⟨r,1,none⟩ u1).setCell ⟨r,2,none⟩ u2).setCell ⟨r,3,none⟩ u3):=
  (((h.set_ (p:=⟨r,0,none⟩) hr _).set_ (p:=⟨r,1,none⟩) hr _).set_ (p:=⟨r,2,none⟩) hr _).set_ (p:=⟨r,3,none⟩) hr _
theorem But.set5 {X:Nat→Prop} {a c:World} {r:Nat} (h:But X a c) (hr:a.heap.size≤r∨X r) (u0 u1 u2 u3 u4:Value):But X a (((((c.setCell ⟨r,0,none⟩ u0).setCell ⟨r,1,none⟩ u1).setCell ⟨r,2,none⟩ u2).setCell ⟨r,3,none⟩ u3).setCell ⟨r,4,none⟩ u4):=
  (h.set4 hr _ _ _ _).set_ (p:=⟨r,4,none⟩) hr _
theorem SameOn.set5 {S:Nat→Prop} {a c:World} {r:Nat} (h:SameOn S a c) (hr:¬ S r) (u0 u1 u2 u3 u4:Value):SameOn S a (((((c.setCell ⟨r,0,none⟩ u0).setCell ⟨r,1,none⟩ u1).setCell ⟨r,2,none⟩ u2).setCell ⟨r,3,none⟩ u3).setCell ⟨r,4,none⟩ u4):=
  ((((h.set_ (p:=⟨r,0,none⟩) hr _).set_ (p:=⟨r,1,none⟩) hr _).set_ (p:=⟨r,2,none⟩) hr _).set_ (p:=⟨r,3,none⟩) hr _).set_ (p:=⟨r,4,none⟩) hr _
theorem SameOn.set4 {S:Nat→Prop} {a c:World} {r:Nat} (h:SameOn S a c) (hr:¬ S r) (u0 u1 u2 u3:Value):SameOn S a ((((c.setCell ⟨r,0,none⟩ u0).setCell ⟨r,1,none⟩ u1).setCell ⟨r,2,none⟩ u2).setCell ⟨r,3,none⟩ u3):=
  (((h.set_ (p:=⟨r,0,none⟩) hr _).set_ (p:=⟨r,1,none⟩) hr _).set_ (p:=⟨r,2,none⟩) hr _).set_ (p:=⟨r,3,none⟩) hr _
theorem Blk.put4 {w:World} {g:Nat} {t:TypeId} {c0 c1 c2 c3:Value} (h:Blk w g t #[c0,c1,c2,c3]) (u0 u1 u2 u3:Value) :
    Blk ((((w.setCell ⟨g,0,none⟩ u0).setCell ⟨g,1,none⟩ u1).setCell ⟨g,2,none⟩ u2).setCell ⟨g,3,none⟩ u3) g t #[u0,u1,u2,u3]:=by
  simpa using (((h.set_ 0 u0).set_ 1 u1).set_ 2 u2).set_ 3 u3
theorem Blk.put5 {w:World} {g:Nat} {t:TypeId} {c0 c1 c2 c3 c4:Value} (h:Blk w g t #[c0,c1,c2,c3,c4]) (u0 u1 u2 u3 u4:Value) :
    Blk (((((w.setCell ⟨g,0,none⟩ u0).setCell ⟨g,1,none⟩ u1).setCell ⟨g,2,none⟩ u2).setCell ⟨g,3,none⟩ u3).setCell ⟨g,4,none⟩ u4) g t #[u0,u1,u2,u3,u4]:=by
  simpa using ((((h.set_ 0 u0).set_ 1 u1).set_ 2 u2).set_ 3 u3).set_ 4 u4
theorem Blk.far4 {w:World} {g r:Nat} {t:TypeId} {cs:Array Value} (h:Blk w g t cs) (hr:g≠r) (u0 u1 u2 u3:Value) :
    Blk ((((w.setCell ⟨r,0,none⟩ u0).setCell ⟨r,1,none⟩ u1).setCell ⟨r,2,none⟩ u2).setCell ⟨r,3,none⟩ u3) g t cs:=
  (((h.far (p:=⟨r,0,none⟩) hr u0).far (p:=⟨r,1,none⟩) hr u1).far (p:=⟨r,2,none⟩) hr u2).far (p:=⟨r,3,none⟩) hr u3
theorem Blk.far5 {w:World} {g r:Nat} {t:TypeId} {cs:Array Value} (h:Blk w g t cs) (hr:g≠r) (u0 u1 u2 u3 u4:Value) :
    Blk (((((w.setCell ⟨r,0,none⟩ u0).setCell ⟨r,1,none⟩ u1).setCell ⟨r,2,none⟩ u2).setCell ⟨r,3,none⟩ u3).setCell ⟨r,4,none⟩ u4) g t cs:=
  (h.far4 hr u0 u1 u2 u3).far (p:=⟨r,4,none⟩) hr u4
theorem Blk.but {X:Nat→Prop} {w w':World} {g:Nat} {t:TypeId} {cs:Array Value} (h:Blk w g t cs) (hb:But X w w') (hg:¬ X g):Blk w' g t cs:=(hb.block g h.lt hg).trans h
theorem tok_ret {fn:Func} {R:Ending→World→Prop} {a:Act} {W:World} {r k:Nat} {u0 u1 u2 u3:Value} (hres:fn.results = #[.cell k 36]) (hs:a.tmps[k]?.getD undef = .pointer (some ⟨r,0,none⟩))
    (hB:Blk W r 36 #[u0,u1,u2,u3]) (hd:a.defers=[]) (hR:R (.returned (.agg #[u0,u1,u2,u3])) W):bodyPost Tryz.prog fn R .ret a W:=by
  obtain ⟨r0,r1,r2,r3,rf,rl⟩:=hB.cells4;refine bodyPost_ret ?_ hd hR;simp [results,hres,hs,go_sem,r0,r1,r2,r3]
theorem node_ret {fn:Func} {R:Ending→World→Prop} {a:Act} {W:World} {r k:Nat} {u0 u1 u2 u3 u4:Value} (hres:fn.results = #[.cell k 25]) (hs:a.tmps[k]?.getD undef = .pointer (some ⟨r,0,none⟩))
    (hB:Blk W r 25 #[u0,u1,u2,u3,u4]) (hd:a.defers=[]) (hR:R (.returned (.agg #[u0,u1,u2,u3,u4])) W):bodyPost Tryz.prog fn R .ret a W:=by
  obtain ⟨r0,r1,r2,r3,r4,rf,rl⟩:=hB.cells5;refine bodyPost_ret ?_ hd hR;simp [results,hres,hs,go_sem,r0,r1,r2,r3,r4]
theorem next_calls (hE:EOk E) (h:PS E w i b) (hi:i+1<E.ts.length):Calls Tryz.prog 61 #[(.pointer (some ⟨E.g,0,none⟩))] w fun e w'=>e = .returned (tokV (E.tok i))∧PS E w' (i+1) b∧But (fun k=>k=E.g) w w':=by
  have hln:=hE.len;have hgl:=h.glt;have HP:=zh h;have HE:=zh hE;clear h hE;have hf0:=tfield0;have hf1:=tfield1;have hf2:=tfield2;have hf3:=tfield3;go_enter Tryz.func61,Tryz.ntmps61;go_wp2_with fail;refine (now_calls HE.out (HP.out.below (below_al _ _))).mono ?_;rintro e w1 ⟨rfl,hb1⟩;simp only [tokV];have hz1:=hb1.size;simp at hz1;have hgw:E.g<w.heap.size:=hgl;have HR1:=zh ((Blk.new w _ _).below hb1 (by simp));have HP1:=zh ((HP.out.below (below_al _ _)).below hb1);have HB1:Hid (Below w.heap.size w w1):=(below_al _ _).trans (hb1.mono (by simp));obtain ⟨q0,q1,q2,qf,ql⟩:=HP1.out.cells;obtain ⟨r0,r1,r2,r3,rf,rl⟩:=HR1.out.cells4;clear hb1 q0 q2;go_wp2_with fail;have hB:=((HR1.out.far (p:=⟨E.g,1,none⟩) (by simp;omega) (.int .i64 (i+1))).put4 (.int .i64 (E.tok i).k) (.int .i64 (E.tok i).fr) (.int .i64 (E.tok i).to) (.string (E.tok i).tx)).alloc (.cells #[.int .i64 (E.tok i).k,.int .i64 (E.tok i).fr,.int .i64 (E.tok i).to,.string (E.tok i).tx] 36);refine tok_ret (r:=w.heap.size) Tryz.results61 rfl hB rfl ⟨rfl,?_,?_⟩
  · exact ((HP1.out.set1 (j:=i+1) hi).far4 (r:=w.heap.size) (by omega) (by have:=HP.out.lt;omega) _ _ _ _).alloc _
  · exact (((But.of_below (X:=fun k=>k=E.g) HB1.out).set_ (p:=⟨E.g,1,none⟩) (.inr rfl) _).set4 (.inl (Nat.le_refl _)) _ _ _ _).alloc _
theorem take_yes (hE:EOk E) (h:PS E w i b) (hr:Row w S 1 v l.length (l.map .string)) (hS:Old S w) (hq:oneOf (E.tok i) l=true) :
    Calls Tryz.prog 67 #[(.pointer (some ⟨E.g,0,none⟩)),v] w fun e w'=>e = .returned (.bool true)∧PS E w' (i+1) b∧But (fun k=>k=E.g) w w':=by
  obtain ⟨A1,c1,rfl,hlen⟩:=hr.form;have hln:=hE.len;have hi:i+1<E.ts.length:=hE.wt.nxt i h.ilt (one_n7 hq);have HP:=zh h;have HE:=zh hE;clear h hE;have HR:=zh hr;have HS:=zh hS;have HQ:=zh hq;clear hr hS hq;have hf0:=tfield0;have hf1:=tfield1;have hf2:=tfield2;have hf3:=tfield3;go_enter Tryz.func67,Tryz.ntmps67;go_wp2_with fail;refine (is_calls HE.out HP.out HR.out HS.out).mono ?_;rintro e w1 ⟨rfl,hb1⟩;rw [HQ.out];have HP1:=zh (HP.out.below hb1);have HB1:=zh hb1;obtain ⟨q0,q1,q2,qf,ql⟩:=HP1.out.cells;clear hb1 q0 q2;go_wp2_with fail;go_ret;exact ⟨rfl,HP1.out.set1 hi,(But.of_below (X:=fun k=>k=E.g) HB1.out).set_ (p:=⟨E.g,1,none⟩) (.inr rfl) _⟩
theorem take_no (hE:EOk E) (h:PS E w i b) (hr:Row w S 1 v l.length (l.map .string)) (hS:Old S w) (hq:oneOf (E.tok i) l=false) :
    Calls Tryz.prog 67 #[(.pointer (some ⟨E.g,0,none⟩)),v] w fun e w'=>e = .returned (.bool false)∧Below w.heap.size w w':=by
  obtain ⟨A1,c1,rfl,hlen⟩:=hr.form;have HP:=zh h;have HE:=zh hE;clear h hE;have HR:=zh hr;have HS:=zh hS;have HQ:=zh hq;clear hr hS hq;have hf0:=tfield0;have hf1:=tfield1;have hf2:=tfield2;have hf3:=tfield3;go_enter Tryz.func67,Tryz.ntmps67;go_wp2_with fail;refine (is_calls HE.out HP.out HR.out HS.out).mono ?_;rintro e w1 ⟨rfl,hb1⟩;rw [HQ.out];have HB1:=zh hb1;clear hb1;go_wp2_with fail;go_ret;exact ⟨rfl,HB1.out⟩
theorem str_one {w:World} {n:Nat} {x:ByteArray} (hn:n=w.heap.size):Row (w.alloc (.cells #[.string x] 9)) (fun b=>b=n) 1 (.slice (some ⟨n,0,none⟩) 1 1) ([x]:List ByteArray).length (([x]:List ByteArray).map .string):=by
  simpa using strs_new (w:=w) [x] hn (by simp)
theorem need_yes (hE:EOk E) (h:PS E w i b) {x:ByteArray} (hq:oneOf (E.tok i) [x]=true) :
    Calls Tryz.prog 56 #[(.pointer (some ⟨E.g,0,none⟩)),.string x] w fun e w'=>e = .returned (tokV (E.tok i))∧PS E w' (i+1) b∧But (fun k=>k=E.g) w w':=by
  have hln:=hE.len;have hi:i+1<E.ts.length:=hE.wt.nxt i h.ilt (one_n7 hq);have hga:=h.glt;have haa:=h.lt;have HP:=zh h;have HE:=zh hE;clear h hE;have HQ:=zh hq;clear hq;have hf0:=tfield0;have hf1:=tfield1;have hf2:=tfield2;have hf3:=tfield3;go_enter Tryz.func56,Tryz.ntmps56;go_wp2_with fail;refine (is_calls (l:=[x]) HE.out ((HP.out.alloc _).alloc _) (str_one (n:=w.heap.size+1) (by simp)) (old_new (by simp))).mono ?_;rintro e w1 ⟨rfl,hb1⟩;rw [HQ.out];have HR1:=zh (((Blk.new w _ _).alloc _).below hb1 (by simp;omega));have HP1:=zh (((HP.out.alloc _).alloc _).below hb1);have hz1:=hb1.size;simp at hz1;have HB1:Hid (Below w.heap.size w w1):=((below_al _ _).alloc (by simp) _).trans (hb1.mono (by simp;omega));clear hb1;go_wp2_with fail;refine (next_calls HE.out HP1.out hi).mono ?_;rintro e w2 ⟨rfl,hp2,hb2⟩;simp only [tokV];have HP2:=zh hp2;have HR2:=zh (HR1.out.but hb2 (by omega));have HB2:Hid (But (fun k=>k=E.g) w w2):=(But.of_below HB1.out).trans hb2 (fun _ _ h=>h);obtain ⟨r0,r1,r2,r3,rf,rl⟩:=HR2.out.cells4;clear hp2 hb2;go_wp2_with fail;refine tok_ret (r:=w.heap.size) Tryz.results56 rfl (HR2.out.put4 _ _ _ _) rfl ⟨rfl,?_,?_⟩
  · exact HP2.out.far4 (by omega) (by omega) _ _ _ _
  · exact HB2.out.set4 (.inl (Nat.le_refl _)) _ _ _ _
theorem need_no (hE:EOk E) (h:PS E w i b) {x:ByteArray} (hq:oneOf (E.tok i) [x]=false) :
    Calls Tryz.prog 56 #[(.pointer (some ⟨E.g,0,none⟩)),.string x] w fun e w'=>e = .panicked (badC (E.tok i).fr)∧Below w.heap.size w w':=by
  have HP:=zh h;have HE:=zh hE;clear h hE;have HQ:=zh hq;clear hq;have hf0:=tfield0;have hf1:=tfield1;have hf2:=tfield2;have hf3:=tfield3;go_enter Tryz.func56,Tryz.ntmps56;go_wp2_with fail;refine (is_calls (l:=[x]) HE.out ((HP.out.alloc _).alloc _) (str_one (n:=w.heap.size+1) (by simp)) (old_new (by simp))).mono ?_;rintro e w1 ⟨rfl,hb1⟩;rw [HQ.out];have HP1:=zh (((HP.out.alloc _).alloc _).below hb1);have hz1:=hb1.size;simp at hz1;have HB1:Hid (Below w.heap.size w w1):=((below_al _ _).alloc (by simp) _).trans (hb1.mono (by simp;omega));clear hb1;go_wp2_with fail;refine (bad_calls HE.out HP1.out).mono ?_;rintro e w2 ⟨rfl,hb2⟩;have HB2:=zh (HB1.out.trans (hb2.mono HB1.out.size));clear hb2;go_wp2_with fail;exact ⟨rfl,rfl,HB2.out⟩
theorem semi_yes (hE:EOk E) (h:PS E w i b) (hq:(E.tok i).k=6) :
    Calls Tryz.prog 59 #[(.pointer (some ⟨E.g,0,none⟩))] w fun e w'=>e = .returned (.tuple #[])∧PS E w' (i+1) b∧But (fun k=>k=E.g) w w':=by
  have hln:=hE.len;have hi:i+1<E.ts.length:=hE.wt.nxt i h.ilt (by rw [show tokAt E.ts i=E.tok i from rfl,hq];decide);(have hbq:((E.tok i).k != 6)=false:=by simpa using hq);clear hq;have HP:=zh h;have HE:=zh hE;clear h hE;have hf0:=tfield0;have hf1:=tfield1;have hf2:=tfield2;have hf3:=tfield3;go_enter Tryz.func59,Tryz.ntmps59;go_wp2_with fail;refine (now_calls HE.out HP.out).mono ?_;rintro e w1 ⟨rfl,hb1⟩;simp only [tokV];have HP1:=zh (HP.out.below hb1);have HB1:=zh hb1;obtain ⟨q0,q1,q2,qf,ql⟩:=HP1.out.cells;clear hb1 q0 q2;go_wp2_with fail
  go_end0
  exact ⟨rfl,HP1.out.set1 hi,(But.of_below (X:=fun k=>k=E.g) HB1.out).set_ (p:=⟨E.g,1,none⟩) (.inr rfl) _⟩
theorem semi_no (hE:EOk E) (h:PS E w i b) (hq:¬(E.tok i).k=6) :
    Calls Tryz.prog 59 #[(.pointer (some ⟨E.g,0,none⟩))] w fun e w'=>e = .panicked (badC (E.tok i).fr)∧Below w.heap.size w w':=by
  (have hbq:((E.tok i).k != 6)=true:=by simpa using hq);clear hq;have HP:=zh h;have HE:=zh hE;clear h hE;have hf0:=tfield0;have hf1:=tfield1;have hf2:=tfield2;have hf3:=tfield3;go_enter Tryz.func59,Tryz.ntmps59;go_wp2_with fail;refine (now_calls HE.out HP.out).mono ?_;rintro e w1 ⟨rfl,hb1⟩;simp only [tokV];have HP1:=zh (HP.out.below hb1);have HB1:=zh hb1;clear hb1;go_wp2_with fail;refine (bad_calls HE.out HP1.out).mono ?_;rintro e w2 ⟨rfl,hb2⟩;have HB2:=zh (HB1.out.trans (hb2.mono HB1.out.size));clear hb2;go_wp2_with fail;exact ⟨rfl,rfl,HB2.out⟩
theorem name_yes (hE:EOk E) (h:PS E w i b) (hq:(E.tok i).k=1) :
    Calls Tryz.prog 57 #[(.pointer (some ⟨E.g,0,none⟩))] w fun e w'=>e = .returned (.agg #[.int .i64 40,.int .i64 (E.tok i).fr,.int .i64 (E.tok i).to,.string (E.tok i).tx,.slice none 0 0])∧PS E w' (i+1) b∧But (fun k=>k=E.g) w w':=by
  have hln:=hE.len;have hi:i+1<E.ts.length:=hE.wt.nxt i h.ilt (by rw [show tokAt E.ts i=E.tok i from rfl,hq];decide);have hga:=h.glt;have haa:=h.lt;have HP:=zh h;have HE:=zh hE;clear h hE;have HQ:=zh hq;clear hq;have hf0:=tfield0;have hf1:=tfield1;have hf2:=tfield2;have hf3:=tfield3;go_enter Tryz.func57,Tryz.ntmps57;go_wp2_with fail;refine (named_calls HE.out (HP.out.alloc _)).mono ?_;rintro e w1 ⟨rfl,hb1⟩;rw [show decide ((E.tok i).k=1)=true from decide_eq_true HQ.out];have HR1:=zh ((Blk.new w _ _).below hb1 (by simp));have HP1:=zh ((HP.out.alloc _).below hb1);have hz1:=hb1.size;simp at hz1;have HB1:Hid (Below w.heap.size w w1):=(below_al _ _).trans (hb1.mono (by simp));clear hb1;go_wp2_with fail;refine (next_calls HE.out HP1.out hi).mono ?_;rintro e w2 ⟨rfl,hp2,hb2⟩;simp only [tokV];have hz2:=hb2.size;have HP2:=zh hp2;have HR2:=zh (HR1.out.but hb2 (by omega));have HB2:Hid (But (fun k=>k=E.g) w w2):=(But.of_below HB1.out).trans hb2 (fun _ _ h=>h);obtain ⟨r0,r1,r2,r3,r4,rf,rl⟩:=HR2.out.cells5;clear hp2 hb2;go_wp2_with fail;refine node_ret (r:=w.heap.size) Tryz.results57 rfl ((HR2.out.put5 _ _ _ _ _).alloc _) rfl ⟨rfl,?_,?_⟩
  · exact (HP2.out.far5 (by omega) (by omega) _ _ _ _ _).alloc _
  · exact (HB2.out.set5 (.inl (Nat.le_refl _)) _ _ _ _ _).alloc _
theorem name_no (hE:EOk E) (h:PS E w i b) (hq:¬(E.tok i).k=1) :
    Calls Tryz.prog 57 #[(.pointer (some ⟨E.g,0,none⟩))] w fun e w'=>e = .panicked (badC (E.tok i).fr)∧Below w.heap.size w w':=by
  have HP:=zh h;have HE:=zh hE;clear h hE;have HQ:=zh hq;clear hq;have hf0:=tfield0;have hf1:=tfield1;have hf2:=tfield2;have hf3:=tfield3;go_enter Tryz.func57,Tryz.ntmps57;go_wp2_with fail;refine (named_calls HE.out (HP.out.alloc _)).mono ?_;rintro e w1 ⟨rfl,hb1⟩;rw [show decide ((E.tok i).k=1)=false from decide_eq_false HQ.out];have HP1:=zh ((HP.out.alloc _).below hb1);have hz1:=hb1.size;simp at hz1;have HB1:Hid (Below w.heap.size w w1):=(below_al _ _).trans (hb1.mono (by simp));clear hb1;go_wp2_with fail;refine (bad_calls HE.out HP1.out).mono ?_;rintro e w2 ⟨rfl,hb2⟩;have HB2:=zh (HB1.out.trans (hb2.mono HB1.out.size));clear hb2;go_wp2_with fail;exact ⟨rfl,rfl,HB2.out⟩
theorem to_calls (hE:EOk E) (h:PS E w i b) (h1:1≤i):Calls Tryz.prog 58 #[(.pointer (some ⟨E.g,0,none⟩))] w fun e w'=>e = .returned (.int .i64 (E.tok (i - 1)).to)∧Below w.heap.size w w':=by
  obtain ⟨j,rfl⟩:∃ j,i=j+1:=⟨i - 1,by omega⟩;rw [Nat.add_sub_cancel];have hln:=hE.len;have hil:=h.ilt;(have hjl:j<E.ts.length:=by omega);obtain ⟨t0,t1,t2,t3⟩:=h.tok j hjl;obtain ⟨q0,q1,q2,qf,ql⟩:=h.cells;have hal:=h.lt;clear h hE q2 t0 t1 t3;have hf0:=tfield0;have hf1:=tfield1;have hf2:=tfield2;have hf3:=tfield3;go_enter Tryz.func58,Tryz.ntmps58;go_wp2_with fail
  go_region
  all_goals
    go_wp2_with fail;go_ret;exact ⟨rfl,(Below.refl _ _).drew⟩
theorem made_calls (hE:EOk E) (h:PS E w i b) (h1:1≤i) {k fr:Int} {tx:ByteArray} {B:Option Addr} {n c:Nat}:Calls Tryz.prog 62 #[(.pointer (some ⟨E.g,0,none⟩)),.int .i64 k,.int .i64 fr,.string tx,.slice B n c] w fun e w'=>
    e = .returned (.agg #[.int .i64 k,.int .i64 fr,.int .i64 (E.tok (i - 1)).to,.string tx,.slice B n c])∧Below w.heap.size w w':=by
  have HP:=zh h;have HE:=zh hE;clear h hE;have hf0:=tfield0;have hf1:=tfield1;have hf2:=tfield2;have hf3:=tfield3;go_enter Tryz.func62,Tryz.ntmps62;go_wp2_with fail;refine (to_calls HE.out (HP.out.alloc _) h1).mono ?_;rintro e w1 ⟨rfl,hb1⟩;have HR1:=zh ((Blk.new w _ _).below hb1 (by simp));have hz1:=hb1.size;simp at hz1;have HB1:Hid (Below w.heap.size w w1):=(below_al _ _).trans (hb1.mono (by simp));obtain ⟨r0,r1,r2,r3,r4,rf,rl⟩:=HR1.out.cells5;clear hb1;go_wp2_with fail;refine node_ret (r:=w.heap.size) Tryz.results62 rfl (HR1.out.put5 _ _ _ _ _) rfl ⟨rfl,?_⟩;exact ((But.of_below (X:=fun _=>False) HB1.out).set5 (.inl (Nat.le_refl _)) _ _ _ _ _).below (fun _ _ h=>h.elim) (Nat.le_refl _)
theorem none_calls:Calls Tryz.prog 80 #[] w fun e w'=>e = .returned (.agg #[.int .i64 7,.int .i64 0,.int .i64 0,.string ⟨#[]⟩,.slice none 0 0])∧Below w.heap.size w w':=by
  go_enter Tryz.func80,Tryz.ntmps80;go_wp2_with fail;exact node_ret (r:=w.heap.size) Tryz.results80 rfl (Blk.new _ _ _) rfl ⟨rfl,below_al _ _⟩
theorem empty_calls (hE:EOk E) (h:PS E w i b) {k:Int}:Calls Tryz.prog 137 #[(.pointer (some ⟨E.g,0,none⟩)),.int .i64 k] w fun e w'=>
    e = .returned (.agg #[.int .i64 k,.int .i64 (E.tok i).fr,.int .i64 (E.tok i).fr,.string ⟨#[]⟩,.slice none 0 0])∧Below w.heap.size w w':=by
  have HP:=zh h;have HE:=zh hE;clear h hE;have hf0:=tfield0;have hf1:=tfield1;have hf2:=tfield2;have hf3:=tfield3;go_enter Tryz.func137,Tryz.ntmps137;go_wp2_with fail;refine (from_calls HE.out (HP.out.alloc _)).mono ?_;rintro e w1 ⟨rfl,hb1⟩;have HR1:=zh ((Blk.new w _ _).below hb1 (by simp));have HP1:=zh ((HP.out.alloc _).below hb1);have hz1:=hb1.size;simp at hz1;have HB1:Hid (Below w.heap.size w w1):=(below_al _ _).trans (hb1.mono (by simp));clear hb1;go_wp2_with fail;refine (from_calls HE.out HP1.out).mono ?_;rintro e w2 ⟨rfl,hb2⟩;have HR2:=zh (HR1.out.below hb2 (by omega));have HB2:=zh (HB1.out.trans (hb2.mono HB1.out.size));obtain ⟨r0,r1,r2,r3,r4,rf,rl⟩:=HR2.out.cells5;clear hb2;go_wp2_with fail;refine node_ret (r:=w.heap.size) Tryz.results137 rfl (HR2.out.put5 _ _ _ _ _) rfl ⟨rfl,?_⟩;exact ((But.of_below (X:=fun _=>False) HB2.out).set5 (.inl (Nat.le_refl _)) _ _ _ _ _).below (fun _ _ h=>h.elim) (Nat.le_refl _)
end
set_option maxRecDepth 100000
set_option maxHeartbeats 1000000
section
variable {E:Env} {w:World} {i:Nat} {b:Bool} {l:List ByteArray} {v:Value} {S:Nat→Prop}
theorem ahead_calls (hE:EOk E) (h:PS E w i b) {n:Nat} (hn:n≤2):Calls Tryz.prog 152 #[(.pointer (some ⟨E.g,0,none⟩)),.int .i64 n] w fun e w'=>
    e = .returned (tokV (E.tok (min (i+n) (E.ts.length - 1))))∧Below w.heap.size w w':=by
  obtain ⟨m,hm⟩:∃ m,m=min (i+n) (E.ts.length - 1):=⟨_,rfl⟩;(have hmn:(if (E.ts.length:Int) - 1<(i:Int)+(n:Int) then (E.ts.length:Int) - 1 else (i:Int)+(n:Int))=(m:Int):=by have:=h.ilt;split <;> omega);(have hml:m<E.ts.length:=by have:=h.ilt;omega);rw [← hm];obtain ⟨t0,t1,t2,t3⟩:=h.tok m hml;obtain ⟨q0,q1,q2,qf,ql⟩:=h.cells;have hal:=h.lt;have hln:=hE.len;have hil:=h.ilt;clear h hE q2 hm;have hf0:=tfield0;go_enter Tryz.func152,Tryz.ntmps152;go_wp2_with fail
  go_region
  all_goals
    go_wp2_with fail;exact tok_ret (r:=w.heap.size) Tryz.results152 rfl (Blk.drew (Blk.new w _ _)) rfl ⟨rfl,(below_al _ _).drew⟩
theorem typed_calls (hE:EOk E) (h:PS E w i b):Calls Tryz.prog 136 #[(.pointer (some ⟨E.g,0,none⟩))] w fun e w'=>e = .returned (.bool (typedT (E.tok i)))∧Below w.heap.size w w':=by
  have HP:=zh h;have HE:=zh hE;clear h hE;have hf0:=tfield0;go_enter Tryz.func136,Tryz.ntmps136;go_wp2_with fail;refine (named_calls HE.out HP.out).mono ?_;rintro e w1 ⟨rfl,hb1⟩;have HP1:=zh (HP.out.below hb1);have HB1:=zh hb1;by_cases hk:(E.tok i).k=1
  · rw [show decide ((E.tok i).k=1)=true from decide_eq_true hk]
    (have HQ:Hid (typedT (E.tok i)=true):=by unfold typedT;rw [decide_eq_true hk];exact rfl);clear hk hb1;go_wp2_with fail;go_ret;exact ⟨by rw [HQ.out];rfl,HB1.out⟩
  · rw [show decide ((E.tok i).k=1)=false from decide_eq_false hk]
    (have HQ:Hid (typedT (E.tok i)=oneOf (E.tok i) [⟨#[42]⟩,⟨#[91]⟩,⟨#[99,104,97,110]⟩,⟨#[102,117,110,99]⟩,⟨#[115,116,114,117,99,116]⟩,⟨#[105,110,116,101,114,102,97,99,101]⟩,⟨#[40]⟩]):=by unfold typedT;rw [decide_eq_false hk];exact rfl);clear hk hb1;go_wp2_with fail;refine (is_calls (l:=[⟨#[42]⟩,⟨#[91]⟩,⟨#[99,104,97,110]⟩,⟨#[102,117,110,99]⟩,⟨#[115,116,114,117,99,116]⟩,⟨#[105,110,116,101,114,102,97,99,101]⟩,⟨#[40]⟩]) HE.out (HP1.out.alloc _) (strs_new (n:=w1.heap.size) _ rfl (by simp)) (old_new rfl)).mono ?_;rintro e w2 ⟨rfl,hb2⟩;have HB2:=zh (HB1.out.trans ((below_al _ _).trans (hb2.mono (by simp)) |>.mono HB1.out.size));clear hb2;go_wp2_with fail;go_ret;exact ⟨by rw [HQ.out];rfl,HB2.out⟩
theorem begins_calls (hE:EOk E) (h:PS E w i b):Calls Tryz.prog 165 #[(.pointer (some ⟨E.g,0,none⟩))] w fun e w'=>e = .returned (.bool (beginsT (E.tok i)))∧Below w.heap.size w w':=by
  have HP:=zh h;have HE:=zh hE;clear h hE;have hf0:=tfield0;go_enter Tryz.func165,Tryz.ntmps165;go_wp2_with fail;refine (now_calls HE.out HP.out).mono ?_;rintro e w1 ⟨rfl,hb1⟩;simp only [tokV];have HP1:=zh (HP.out.below hb1);have HB1:=zh hb1;clear hb1;by_cases hk:(E.tok i).k=1∨(E.tok i).k=2∨(E.tok i).k=3
  · have HQ:Hid (beginsT (E.tok i)=true):=by
      unfold beginsT;(have:(decide ((E.tok i).k=1) || decide ((E.tok i).k=2) || decide ((E.tok i).k=3))=true:=by simpa [or_assoc] using hk);rw [this];exact rfl
    rcases hk with hk | hk | hk
    all_goals
      rw [hk];clear hk;go_wp2_with fail;go_ret;exact ⟨by rw [HQ.out];rfl,HB1.out⟩
  · have HQ:Hid (beginsT (E.tok i)=oneOf (E.tok i) [⟨#[45]⟩,⟨#[33]⟩,⟨#[38]⟩,⟨#[42]⟩,⟨#[60,45]⟩,⟨#[40]⟩,⟨#[102,117,110,99]⟩,⟨#[91]⟩]):=by
      unfold beginsT;(have:(decide ((E.tok i).k=1) || decide ((E.tok i).k=2) || decide ((E.tok i).k=3))=false:=by simpa [and_assoc] using hk);rw [this];exact rfl
    (have h1:((E.tok i).k == 1)=false:=by simpa using fun e=>hk (.inl e));(have h2:((E.tok i).k == 2)=false:=by simpa using fun e=>hk (.inr (.inl e)));(have h3:((E.tok i).k == 3)=false:=by simpa using fun e=>hk (.inr (.inr e)));clear hk;go_wp2_with fail;refine (is_calls (l:=[⟨#[45]⟩,⟨#[33]⟩,⟨#[38]⟩,⟨#[42]⟩,⟨#[60,45]⟩,⟨#[40]⟩,⟨#[102,117,110,99]⟩,⟨#[91]⟩]) HE.out (HP1.out.alloc _) (strs_new (n:=w1.heap.size) _ rfl (by simp)) (old_new rfl)).mono ?_;rintro e w2 ⟨rfl,hb2⟩;have HB2:=zh (HB1.out.trans ((below_al _ _).trans (hb2.mono (by simp)) |>.mono HB1.out.size));clear hb2;go_wp2_with fail;go_ret;exact ⟨by rw [HQ.out];rfl,HB2.out⟩
theorem rank_calls {t:Tk}:Calls Tryz.prog 66 #[tokV t] w fun e w'=>e = .returned (.int .i64 (rankT t))∧Below w.heap.size w w':=by
  obtain ⟨tk,tf,tt,tx⟩:=t;simp only [tokV];have hf0:=tfield0;go_enter Tryz.func66,Tryz.ntmps66;by_cases hk:tk=5
  · subst hk
    obtain ⟨r,hr⟩:∃ r,rankT ⟨5,tf,tt,tx⟩=r:=⟨_,rfl⟩;have hr1:=hr;simp only [rankT,ne_eq,not_true_eq_false,if_false,oneTx,List.any_cons,List.any_nil,Bool.or_false] at hr1;rw [hr];simp only [← bytes_eq] at hr1;simp [go_sem] at hr1;have HR:=zh hr1;clear hr hr1;go_wp2_with fail
    all_goals
      go_ret;refine ⟨?_,below_al _ _⟩;rw [← HR.out]
      simp_all [go_sem]
  · have HR:Hid (rankT ⟨tk,tf,tt,tx⟩=0):=by
      unfold rankT;rw [if_pos hk];exact rfl
    (have h5:(tk != 5)=true:=by simpa using hk);clear hk;go_wp2_with fail;go_ret;exact ⟨by rw [HR.out];rfl,below_al _ _⟩
end
def mask (n k:Nat):Array Bool:=(List.replicate k true ++ List.replicate (n - k) false).toArray
theorem mask_set {n k:Nat} (h:k<n):(mask n k).setIfInBounds k true=mask n (k+1):=by
  obtain ⟨m,rfl⟩:∃ m,n=k+(m+1):=⟨n - k - 1,by omega⟩;unfold mask;rw [zl4,show k+(m+1) - k=m+1 from by omega,show k+(m+1) - (k+1)=m from by omega,List.set_append_right _ _ (by simp),List.length_replicate,Nat.sub_self,List.replicate_succ,zl5,List.replicate_succ' (n:=k),List.append_assoc];rfl
theorem mask_zero (n:Nat):mask n 0=Array.replicate n false:=by
  unfold mask;simp
theorem mask_all {n k i:Nat} (h:n≤k) (hi:i<n):(mask n k).getD i true=true:=by
  unfold mask;simp [Array.getD_eq_getD_getElem?,List.getElem?_append,List.getElem?_replicate];rw [if_pos (by omega),if_pos (by omega)];rfl
def okUpto (md:Region.Mode) (ops:Array Oper) (K:Nat):Bool:=
  Region.noSelect ops && (List.range K).all fun k=>Region.free md ops (mask ops.size k) k && (Region.ready md ops (mask ops.size k)).contains k
def headH (P:Program) (md:Region.Mode) (ops:Array Oper) (Q:Exit→Act→World→Prop) (S:World→Prop) (k:Nat) (rest:List Oper) (a:Act) (w:World):Prop:=
  ops.toList.drop k=rest→wpAnyH P md ops Q S (ops.size - k) (mask ops.size k) a w
section
variable {P:Program} {md:Region.Mode} {ops:Array Oper} {Q:Exit→Act→World→Prop} {S:World→Prop} {k:Nat} {oi:Oper} {rest:List Oper} {v:Value} {a:Act} {w:World}
theorem drop_parts (h:ops.toList.drop k=oi :: rest):k<ops.size∧ops[k]? = some oi∧ops.toList.drop (k+1)=rest:=by
  have hl:k<ops.toList.length:=by
    rcases Nat.lt_or_ge k ops.toList.length with h1 | h1
    · exact h1
    · rw [List.drop_eq_nil_of_le h1] at h;cases h
  rw [List.drop_eq_getElem_cons hl] at h;have h1:=(List.cons.inj h).1;refine ⟨by simpa using hl,?_,(List.cons.inj h).2⟩;rw [Array.getElem_toList] at h1;rw [← h1];exact Array.getElem?_eq_getElem (by simpa using hl)
theorem startH (K:Nat) (hok:okUpto md ops K=true) (h:okUpto md ops K=true→headH P md ops Q S 0 ops.toList a w):wpAnyH P md ops Q S ops.size (Array.replicate ops.size false) a w:=by
  have:=h hok rfl;rw [mask_zero] at this;exact this
theorem takeH {K:Nat} (hok:okUpto md ops K=true) (hk:k<K) (hQ:∀ c a w,Q (.panic c) (a.put oi.dst v) w→Q (.panic c) a w) (hy:YieldsIf P ops S oi v a) (hS:S w)
    (h:headH P md ops Q S (k+1) rest (a.put oi.dst v) w):headH P md ops Q S k (oi :: rest) a w:=by
  intro hd;obtain ⟨h1,h2,h3⟩:=drop_parts hd;simp only [okUpto,Bool.and_eq_true,List.all_eq_true,List.mem_range] at hok;obtain ⟨h4,h5⟩:=hok.2 k hk;rw [show ops.size - k=ops.size - (k+1)+1 from by omega];refine wpAnyH_take h2 hok.1 h4 h5 hQ hy hS ?_;rw [mask_set h1];exact h h3
theorem callH (hr:Region.ready md ops (mask ops.size k)=[k])
    (h:∀ K':Act→World→Prop,Shut (∀ a w,S w→(S w→headH P md ops Q S (k+1) rest a w)→K' a w)→if Region.wanted oi (yielded ops a.tmps)=true then Oper.wp P oi a w K' Q else K' (a.put oi.dst undef) w):headH P md ops Q S k (oi :: rest) a w:=by
  intro hd;obtain ⟨h1,h2,h3⟩:=drop_parts hd;rw [show ops.size - k=ops.size - (k+1)+1 from by omega];refine wpAnyH_ready hr (by simp) (AllReadyH.cons h2 (fun K' hK=>h K' fun a w hS hW=>hK a w hS fun hS=>?_) AllReadyH.nil);rw [mask_set h1];exact hW hS h3
theorem doneH (h:Q .normal a w):headH P md ops Q S k [] a w:=by
  intro hd;(have hl:ops.size≤k:=by simpa using List.drop_eq_nil_iff.1 hd);refine wpAnyH_done ?_ h _;unfold Region.ready;rw [List.filter_eq_nil_iff];intro i hi;rw [mask_all hl (List.mem_range.1 hi)];simp
theorem rawH (h:wpAnyH P md ops Q S (ops.size - k) (mask ops.size k) a w):headH P md ops Q S k rest a w:=fun _=>h
theorem drewH (h:∀ W,Below w.heap.size w W→S W→wpAnyH P md ops Q S ops.size (Array.replicate ops.size false) a W) (hS:S w.drew):wpAnyH P md ops Q S ops.size (Array.replicate ops.size false) a w.drew:=h _ (Below.refl _ _).drew hS
end
section
variable {α β:Type}
theorem bind_cases {x:PM α} {f:α→PM β} {s:Ps} {r:Except Int (β×Ps)} (h:(x >>= f) s=some r):∃ rx,x s=some rx∧match rx with
    | .error p=>r = .error p
    | .ok (a,s')=>f a s'=some r:=by
  rw [bind_def] at h;cases hx:x s with
  | none=>rw [hx] at h;cases h
  | some rx=>
    rw [hx] at h;refine ⟨rx,rfl,?_⟩;cases rx with
    | error p=>exact (Option.some.inj h).symm
    | ok aa=>exact h
variable {E:Env} {i:Nat} {b:Bool} {l:List ByteArray} {r:Except Int (β×Ps)}
theorem is_bind {f:Bool→PM β} (h:(isP E.ts l >>= f) (i,b)=some r):f (oneOf (E.tok i) l) (i,b)=some r:=h
theorem now_bind {f:Tk→PM β} (h:(nowP E.ts >>= f) (i,b)=some r):f (E.tok i) (i,b)=some r:=h
theorem ahead_bind {n:Nat} {f:Tk→PM β} (h:(aheadP E.ts n >>= f) (i,b)=some r):f (E.tok (min (i+n) (E.ts.length - 1))) (i,b)=some r:=h
theorem from_bind {f:Int→PM β} (h:(fromP E.ts >>= f) (i,b)=some r):f (E.tok i).fr (i,b)=some r:=h
theorem to_bind {f:Int→PM β} (h:(toP E.ts >>= f) (i,b)=some r):f (E.tok (i - 1)).to (i,b)=some r:=h
theorem bare_bind {f:Bool→PM β} (h:(bareP >>= f) (i,b)=some r):f b (i,b)=some r:=h
theorem step_bind {f:Unit→PM β} (h:(stepP >>= f) (i,b)=some r):f () (i+1,b)=some r:=h
theorem back_bind {f:Unit→PM β} (h:(backP >>= f) (i,b)=some r):f () (i - 1,b)=some r:=h
theorem next_bind {f:Tk→PM β} (h:(nextP E.ts >>= f) (i,b)=some r):f (E.tok i) (i+1,b)=some r:=h
theorem pure_bind_ {a:α} {f:α→PM β} (h:((pure a:PM α) >>= f) (i,b)=some r):f a (i,b)=some r:=h
theorem empty_bind {k:Int} {f:No→PM β} (h:(emptyP E.ts k >>= f) (i,b)=some r):f (.mk k (E.tok i).fr (E.tok i).fr ⟨#[]⟩ []) (i,b)=some r:=h
theorem made_bind {k fr:Int} {tx:ByteArray} {ks:List No} {f:No→PM β} (h:(madeP E.ts k fr tx ks >>= f) (i,b)=some r):f (.mk k fr (E.tok (i - 1)).to tx ks) (i,b)=some r:=h
theorem pure_end {a:β} (h:(pure a:PM β) (i,b)=some r):r = .ok (a,(i,b)):=(Option.some.inj h).symm
theorem bad_end (h:(badP E.ts:PM β) (i,b)=some r):r = .error (E.tok i).fr:=(Option.some.inj h).symm
theorem made_end {k fr:Int} {tx:ByteArray} {ks:List No} {r:Except Int (No×Ps)} (h:madeP E.ts k fr tx ks (i,b)=some r):r = .ok (.mk k fr (E.tok (i - 1)).to tx ks,(i,b)):=(Option.some.inj h).symm
theorem empty_end {k:Int} {r:Except Int (No×Ps)} (h:emptyP E.ts k (i,b)=some r):r = .ok (.mk k (E.tok i).fr (E.tok i).fr ⟨#[]⟩ [],(i,b)):=(Option.some.inj h).symm
theorem take_bind1 {f:Bool→PM β} (h:(takeP E.ts l >>= f) (i,b)=some r) (hq:oneOf (E.tok i) l=true):f true (i+1,b)=some r:=by
  rw [bind_def] at h;unfold takeP at h;rw [if_pos (show oneOf (tokAt E.ts (i,b).1) l=true from hq)] at h;exact h
theorem take_bind0 {f:Bool→PM β} (h:(takeP E.ts l >>= f) (i,b)=some r) (hq:oneOf (E.tok i) l=false):f false (i,b)=some r:=by
  rw [bind_def] at h;unfold takeP at h;rw [if_neg (show ¬oneOf (tokAt E.ts (i,b).1) l=true from by rw [show tokAt E.ts (i,b).1=E.tok i from rfl,hq];decide)] at h;exact h
theorem need_bind1 {x:ByteArray} {f:Tk→PM β} (h:(needP E.ts x >>= f) (i,b)=some r) (hq:oneOf (E.tok i) [x]=true):f (E.tok i) (i+1,b)=some r:=by
  rw [bind_def] at h;unfold needP at h;rw [if_pos (show oneOf (tokAt E.ts (i,b).1) [x]=true from hq)] at h;exact h
theorem need_bind0 {x:ByteArray} {f:Tk→PM β} (h:(needP E.ts x >>= f) (i,b)=some r) (hq:oneOf (E.tok i) [x]=false):r = .error (E.tok i).fr:=by
  rw [bind_def] at h;unfold needP at h;rw [if_neg (show ¬oneOf (tokAt E.ts (i,b).1) [x]=true from by rw [show tokAt E.ts (i,b).1=E.tok i from rfl,hq];decide)] at h;exact (Option.some.inj h).symm
theorem semi_bind1 {f:Unit→PM β} (h:(semiP E.ts >>= f) (i,b)=some r) (hq:(E.tok i).k=6):f () (i+1,b)=some r:=by
  rw [bind_def] at h;unfold semiP at h;rw [if_pos (show (tokAt E.ts (i,b).1).k=6 from hq)] at h;exact h
theorem semi_bind0 {f:Unit→PM β} (h:(semiP E.ts >>= f) (i,b)=some r) (hq:¬(E.tok i).k=6):r = .error (E.tok i).fr:=by
  rw [bind_def] at h;unfold semiP at h;rw [if_neg (show ¬(tokAt E.ts (i,b).1).k=6 from hq)] at h;exact (Option.some.inj h).symm
theorem name_bind1 {f:No→PM β} (h:(nameP E.ts >>= f) (i,b)=some r) (hq:(E.tok i).k=1):f (.mk 40 (E.tok i).fr (E.tok i).to (E.tok i).tx []) (i+1,b)=some r:=by
  rw [bind_def] at h;unfold nameP at h;rw [if_pos (show (tokAt E.ts (i,b).1).k=1 from hq)] at h;exact h
theorem name_bind0 {f:No→PM β} (h:(nameP E.ts >>= f) (i,b)=some r) (hq:¬(E.tok i).k=1):r = .error (E.tok i).fr:=by
  rw [bind_def] at h;unfold nameP at h;rw [if_neg (show ¬(tokAt E.ts (i,b).1).k=1 from hq)] at h;exact (Option.some.inj h).symm
end
def Post {α:Type} (E:Env) (X:Nat→Prop) (w:World) (V:World→α→Value→Prop) (r:Except Int (α×Ps)) (e:Ending) (w':World):Prop:=
  But (fun k=>k=E.g∨X k) w w'∧match r with
  | .ok a=>PS E w' a.2.1 a.2.2∧∃ v,e = .returned v∧V w' a.1 v
  | .error p=>e = .panicked (badC p)
def noX (_:Nat):Prop:=False
def NoV (w w':World) (x:No) (v:Value):Prop:=∃ A c,v = .agg #[.int .i64 x.k,.int .i64 x.fr,.int .i64 x.to,.string x.tx,.slice A x.ks.length c]∧RowN w' (New w w') (.slice A x.ks.length c) x.ks
def NoQ (w w':World) (x:No×Bool) (v:Value):Prop:=∃ A c,v = .tuple #[.agg #[.int .i64 x.1.k,.int .i64 x.1.fr,.int .i64 x.1.to,.string x.1.tx,.slice A x.1.ks.length c],.bool x.2]∧RowN w' (New w w') (.slice A x.1.ks.length c) x.1.ks
def NosV (w w':World) (l:List No) (v:Value):Prop:=∃ A c,v = .slice A l.length c∧RowN w' (New w w') (.slice A l.length c) l
abbrev gX (E:Env) (k:Nat):Prop:=k=E.g∨noX k
section
variable {E:Env} {w w':World} {X:Nat→Prop} {i:Nat} {b:Bool}
theorem PS.far1 (h:PS E w i b) {r o:Nat} (h1:r≠E.g) (h2:r≠E.a) (u:Value):PS E (w.setCell ⟨r,o,none⟩ u) i b:=h.far (p:=⟨r,o,none⟩) h1 h2 u
theorem But.set1 {X:Nat→Prop} {a c:World} {r o:Nat} (h:But X a c) (hr:a.heap.size≤r∨X r) (u:Value):But X a (c.setCell ⟨r,o,none⟩ u):=h.set_ (p:=⟨r,o,none⟩) hr u
theorem Blk.far1 {w:World} {g r o:Nat} {t:TypeId} {cs:Array Value} (h:Blk w g t cs) (hr:g≠r) (u:Value):Blk (w.setCell ⟨r,o,none⟩ u) g t cs:=h.far (p:=⟨r,o,none⟩) hr u
theorem Blk.put1 {w:World} {g:Nat} {t:TypeId} {c:Value} (h:Blk w g t #[c]) (u:Value):Blk (w.setCell ⟨g,0,none⟩ u) g t #[u]:=by simpa using h.set_ 0 u
theorem SameOn.set1 {S:Nat→Prop} {a c:World} {r o:Nat} (h:SameOn S a c) (hr:¬ S r) (u:Value):SameOn S a (c.setCell ⟨r,o,none⟩ u):=h.set_ (p:=⟨r,o,none⟩) hr u
def Iv (lo hi:Nat) (k:Nat):Prop:=lo≤k∧k<hi
theorem iv_old {lo hi:Nat} {W:World} (h:hi≤W.heap.size):Old (Iv lo hi) W:=fun k hk=>Nat.lt_of_lt_of_le hk.2 h
theorem SameOn.al {lo hi:Nat} {a c:World} (h:SameOn (Iv lo hi) a c) (hi_:hi≤c.heap.size) (o:Obj):SameOn (Iv lo hi) a (c.alloc o):=h.alloc (iv_old hi_) o
theorem iv_but {lo hi:Nat} {w w':World} (h:But X w w') (h1:hi≤w.heap.size) (h2:∀ k,lo≤k→k<hi→¬ X k):SameOn (Iv lo hi) w w':=h.sameOn fun k hk=>⟨Nat.lt_of_lt_of_le hk.2 h1,h2 k hk.1 hk.2⟩
theorem rowN_blk {S:Nat→Prop} {g n:Nat} {t:TypeId} {cs:List Value} {ks:List No} (h:Blk w g t cs.toArray) (hc:NosR w S ks cs) (hn:ks.length=n) (hm:n≤1000000) (hg:S g):RowN w S (.slice (some ⟨g,0,none⟩) n n) ks:=by
  subst hn;have hl:=hc.len;have:=h.row (S:=S) (n:=ks.length) (size:=5) (by simpa using hl) (by unfold maxLen;omega) hg;exact ⟨cs,by simpa using this,hc⟩
theorem NoR.iv {lo hi lo' hi':Nat} {n:No} {cs:List Value} (h:NoR w (Iv lo hi) n cs) (h1:lo'≤lo) (h2:hi≤hi'):NoR w (Iv lo' hi') n cs:=
  h.keep (SameOn.refl _ _) fun k hk=>⟨Nat.le_trans h1 hk.1,Nat.lt_of_lt_of_le hk.2 h2⟩
end
/-! ### what stands, behind a step: the parser's block and those of a list are written -/
def Xs (E:Env) (l:List Nat) (k:Nat):Prop:=k=E.g∨k ∈ l
section
variable {E:Env} {w0 w w' W:World} {X Y S:Nat→Prop} {l:List Nat} {r n b lo hi lo' hi':Nat} {T:TypeId} {cs:Array Value} {no:No} {cl:List Value} {v:Value} {ks:List No}
theorem xs0 (h:But (fun k=>k=E.g∨noX k) w w'):But (Xs E []) w w':=h.mono fun _ _ h=>h.elim .inl fun e=>e.elim
theorem kxb (h:Below w.heap.size w w'):But (fun k=>k=E.g∨noX k) w w':=But.of_below h
theorem xm (h:But (fun k=>k=E.g) w w'):But (fun k=>k=E.g∨noX k) w w':=h.mono fun _ _ h=>.inl h
theorem nN (w:World) (t:Tk):Hid (NoR w (Iv w.heap.size w.heap.size) (.mk 40 t.fr t.to t.tx []) [.int .i64 40,.int .i64 t.fr,.int .i64 t.to,.string t.tx,.slice none 0 0]):=zh (NoR.mk_ (n:=.mk 40 t.fr t.to t.tx []) RowN.nil_)
theorem nZ (w:World):Hid (NoR w (Iv w.heap.size w.heap.size) noneN [.int .i64 7,.int .i64 0,.int .i64 0,.string ⟨#[]⟩,.slice none 0 0]):=zh (NoR.mk_ (n:=noneN) RowN.nil_)
theorem xg:∀ i,i<n→(i=E.g∨noX i)→Xs E l i:=fun _ _ h=>h.elim .inl fun e=>e.elim
theorem mg:∀ i,i<n→(i=E.g∨noX i)→(i=E.g∨Y i):=fun _ _ h=>h.elim .inl fun e=>e.elim
theorem ng (h:b≠E.g):¬ (b=E.g∨noX b):=fun e=>e.elim h fun e=>e.elim
theorem iv (h:r<lo∨hi≤r):¬ Iv lo hi r:=fun e=>by have h1:=e.1;have h2:=e.2;omega
theorem k2 (h:Hid (Blk w b T cs)) (hw:But (Xs E l) w w') (hg:b≠E.g) (hl:∀ k ∈ l,b≠k):Hid (Blk w' b T cs):=zh (h.out.but hw fun e=>e.elim hg fun e=>hl b e rfl)
theorem k0 (h:Hid (Blk w b T cs)) (hw:But (Xs E []) w w') (hg:b≠E.g:=by omega):Hid (Blk w' b T cs):=k2 h hw hg (by simp)
theorem k1 (h:Hid (Blk w b T cs)) (hw:But (Xs E [r]) w w') (hg:b≠E.g:=by omega) (hr:b≠r:=by omega):Hid (Blk w' b T cs):=k2 h hw hg (by simpa using hr)
theorem iv_xs (hw:But (Xs E l) w w') (h1:hi≤w.heap.size) (h2:E.g<lo) (h3:∀ k ∈ l,k<lo∨hi≤k):SameOn (Iv lo hi) w w':=iv_but hw h1 fun k h4 h5 e=>by
  rcases e with e | e
  · omega
  · have:=h3 k e;omega
theorem n2 (h:Hid (NoR w (Iv lo hi) no cl)) (hw:But (Xs E l) w w') (h1:hi≤w.heap.size) (h2:E.g<lo) (h3:∀ k ∈ l,k<lo∨hi≤k):Hid (NoR w' (Iv lo hi) no cl):=zh (h.out.keep (iv_xs hw h1 h2 h3) fun _ h=>h)
theorem n0 (h:Hid (NoR w (Iv lo hi) no cl)) (hw:But (Xs E []) w w') (h1:hi≤w.heap.size:=by omega) (h2:E.g<lo:=by omega):Hid (NoR w' (Iv lo hi) no cl):=n2 h hw h1 h2 (by simp)
theorem n1 (h:Hid (NoR w (Iv lo hi) no cl)) (hw:But (Xs E [r]) w w') (h1:hi≤w.heap.size:=by omega) (h2:E.g<lo:=by omega) (h3:r<lo∨hi≤r:=by omega):Hid (NoR w' (Iv lo hi) no cl):=n2 h hw h1 h2 (by simpa using h3)
theorem r2 (h:Hid (RowN w (Iv lo hi) v ks)) (hw:But (Xs E l) w w') (h1:hi≤w.heap.size) (h2:E.g<lo) (h3:∀ k ∈ l,k<lo∨hi≤k):Hid (RowN w' (Iv lo hi) v ks):=zh (h.out.keep (iv_xs hw h1 h2 h3) fun _ h=>h)
theorem r0 (h:Hid (RowN w (Iv lo hi) v ks)) (hw:But (Xs E []) w w') (h1:hi≤w.heap.size:=by omega) (h2:E.g<lo:=by omega):Hid (RowN w' (Iv lo hi) v ks):=r2 h hw h1 h2 (by simp)
theorem r1 (h:Hid (RowN w (Iv lo hi) v ks)) (hw:But (Xs E [r]) w w') (h1:hi≤w.heap.size:=by omega) (h2:E.g<lo:=by omega) (h3:r<lo∨hi≤r:=by omega):Hid (RowN w' (Iv lo hi) v ks):=r2 h hw h1 h2 (by simpa using h3)
theorem b2 (h:Hid (But (fun k=>k=E.g∨Y k) w0 w)) (hw:But (Xs E l) w w') (h1:∀ k ∈ l,w0.heap.size≤k∨Y k):Hid (But (fun k=>k=E.g∨Y k) w0 w'):=zh (h.out.trans hw fun k hk e=>e.elim .inl fun e=>(h1 k e).elim (fun h=>absurd hk (by omega)) .inr)
theorem b0 (h:Hid (But (fun k=>k=E.g∨Y k) w0 w)) (hw:But (Xs E []) w w'):Hid (But (fun k=>k=E.g∨Y k) w0 w'):=b2 h hw (by simp)
theorem b1 (h:Hid (But (fun k=>k=E.g∨Y k) w0 w)) (hw:But (Xs E [r]) w w') (h1:w0.heap.size≤r):Hid (But (fun k=>k=E.g∨Y k) w0 w'):=b2 h hw fun k hk=>.inl (by simp at hk;omega)
theorem nk (h:Hid (NoR w (Iv lo hi) no cl)) (hs:SameOn (Iv lo hi) w W) (h1:lo'≤lo) (h2:hi≤hi'):NoR W (Iv lo' hi') no cl:=h.out.keep hs fun _ hk=>⟨Nat.le_trans h1 hk.1,Nat.lt_of_lt_of_le hk.2 h2⟩
theorem rk (h:Hid (RowN w (Iv lo hi) v ks)) (hs:SameOn (Iv lo hi) w W) (h1:lo'≤lo) (h2:hi≤hi'):RowN W (Iv lo' hi') v ks:=h.out.keep hs fun _ hk=>⟨Nat.le_trans h1 hk.1,Nat.lt_of_lt_of_le hk.2 h2⟩
end
theorem SameOn.za {lo hi : Nat} {a c : World} (h : SameOn (Iv lo hi) a c) (o : Obj) (hi_ : hi ≤ c.heap.size := by first|omega|simp<;>omega) : SameOn (Iv lo hi) a (c.alloc o) := h.al hi_ o
theorem zn {W w' : World} {lo : Nat} {n : No} {A : Option Addr} {c : Nat} (h : RowN w' (New W w') (.slice A n.ks.length c) n.ks) (hk : lo ≤ W.heap.size := by first | omega | (simp; done) | (simp; omega)) : Hid (NoR w' (Iv lo w'.heap.size) n [.int .i64 n.k, .int .i64 n.fr, .int .i64 n.to, .string n.tx, .slice A n.ks.length c]) := Lib.hid (NoR.mk_ (n := n) (h.keep (SameOn.refl _ _) fun _ h2 => ⟨Nat.le_trans hk h2.1, h2.2⟩))
theorem zm {W w' : World} {lo : Nat} {l : List No} {A : Option Addr} {c : Nat} (h : RowN w' (New W w') (.slice A l.length c) l) (hk : lo ≤ W.heap.size := by first | omega | (simp; done) | (simp; omega)) : Hid (RowN w' (Iv lo w'.heap.size) (.slice A l.length c) l) := Lib.hid (h.keep (SameOn.refl _ _) fun _ h2 => ⟨Nat.le_trans hk h2.1, h2.2⟩)
def letterN (n:Nat):Bool:=decide (97≤n∧n≤122∨65≤n∧n≤90∨n=95)
def digitN (n:Nat):Bool:=decide (48≤n∧n≤57)
def letU (c:UInt8):Bool:=letterN c.toNat
def digU (c:UInt8):Bool:=digitN c.toNat
def nameU (c:UInt8):Bool:=letU c || digU c
def nameL:List UInt8→Nat
  | []=>0
  | c :: t=>if letU c=true then 1+(t.takeWhile nameU).length else 0
theorem tw_step {p:UInt8→Bool}:∀ {l:List UInt8} {m:Nat} (_:m≤(l.takeWhile p).length) (hm:m<l.length),(p l[m]=true→m+1≤(l.takeWhile p).length)∧(p l[m]=false→(l.takeWhile p).length=m)
  | c :: t,m,h,hm=>by
    rw [List.takeWhile_cons] at h ⊢;by_cases hc:p c=true
    · rw [if_pos hc] at h ⊢
      cases m with
      | zero=>simp [hc]
      | succ m=>
        have:=tw_step (p:=p) (l:=t) (m:=m) (by simpa using h) (by simpa using hm)
        simpa using this
    · rw [if_neg hc] at h ⊢
      (obtain rfl:m=0:=by simpa using h);simp [hc]
theorem tw_le {p:UInt8→Bool} {l:List UInt8}:(l.takeWhile p).length≤l.length:=(List.takeWhile_sublist _).length_le
theorem nameL_cons (c:UInt8) (t:List UInt8):nameL (c :: t)=if letU c=true then 1+(t.takeWhile nameU).length else 0:=rfl
theorem nameL_le:∀ {l:List UInt8},nameL l≤l.length
  | []=>by simp [nameL]
  | c :: t=>by
    rw [nameL_cons];have:=tw_le (p:=nameU) (l:=t);split <;> simp <;> omega
theorem nameL_step {l:List UInt8} {n:Nat} (h:n≤nameL l) (hn:n<l.length):((letU l[n]=true∨0<n∧digU l[n]=true)→n+1≤nameL l)∧(letU l[n]=false→(0<n→digU l[n]=false)→nameL l=n):=by
  cases l with
  | nil=>simp at hn
  | cons c t=>
    rw [nameL_cons] at h ⊢;by_cases hc:letU c=true
    · rw [if_pos hc] at h ⊢
      cases n with
      | zero=>simp [hc]
      | succ m=>
        have:=tw_step (p:=nameU) (l:=t) (m:=m) (by omega) (by simpa using hn);simp only [zl3];refine ⟨fun h1=>?_,fun h1 h2=>?_⟩
        · have h3:=this.1 (by unfold nameU;rcases h1 with h1 | ⟨-,h1⟩ <;> simp [h1])
          omega
        · have h3:=this.2 (by unfold nameU;simp [h1,h2 (by omega)])
          omega
    · rw [if_neg hc] at h ⊢
      (obtain rfl:n=0:=by omega);simp [hc]
def memB (l:List ByteArray) (s:ByteArray):Bool:=l.any fun x=>decide (s=x)
theorem memB_true {l:List ByteArray} {s:ByteArray} (h:memB l s=true):s ∈ l:=by
  obtain ⟨x,hx,he⟩:=List.any_eq_true.1 h;rw [of_decide_eq_true he];exact hx
theorem memB_false {l:List ByteArray} {s:ByteArray} (h:memB l s=false) {x:ByteArray} (hx:x ∈ l):s≠x:=fun e=>by
  have:memB l s=true:=List.any_eq_true.2 ⟨x,hx,decide_eq_true e⟩;rw [h] at this;cases this
theorem tl_ne {s:ByteArray} {l:List UInt8} (h:s≠⟨l.toArray⟩):(s.toList == l)=false:=by
  rw [beq_eq_false_iff_ne];intro e;apply h;rw [Lib.toList_data] at e;cases s;simp at e;subst e;simp
def wordsL:List ByteArray:=[⟨#[98,114,101,97,107]⟩,⟨#[99,97,115,101]⟩,⟨#[99,104,97,110]⟩,⟨#[99,111,110,115,116]⟩,⟨#[99,111,110,116,105,110,117,101]⟩,⟨#[100,101,102,97,117,108,116]⟩,⟨#[100,101,102,101,114]⟩,⟨#[101,108,115,101]⟩,⟨#[102,97,108,108,116,104,114,111,117,103,104]⟩,⟨#[102,111,114]⟩,⟨#[102,117,110,99]⟩,⟨#[103,111]⟩,⟨#[103,111,116,111]⟩,⟨#[105,102]⟩,⟨#[105,109,112,111,114,116]⟩,⟨#[105,110,116,101,114,102,97,99,101]⟩,⟨#[109,97,112]⟩,⟨#[112,97,99,107,97,103,101]⟩,⟨#[114,97,110,103,101]⟩,⟨#[114,101,116,117,114,110]⟩,⟨#[115,101,108,101,99,116]⟩,⟨#[115,116,114,117,99,116]⟩,⟨#[115,119,105,116,99,104]⟩,⟨#[116,121,112,101]⟩,⟨#[118,97,114]⟩]
def wordB (s:ByteArray):Bool:=memB wordsL s
def twosL:List ByteArray:=[⟨#[38,38]⟩,⟨#[124,124]⟩,⟨#[61,61]⟩,⟨#[33,61]⟩,⟨#[60,61]⟩,⟨#[62,61]⟩,⟨#[58,61]⟩,⟨#[43,61]⟩,⟨#[45,61]⟩,⟨#[42,61]⟩,⟨#[47,61]⟩,⟨#[37,61]⟩,⟨#[43,43]⟩,⟨#[45,45]⟩,⟨#[60,45]⟩]
def onesL:List UInt8:=[43,45,42,47,37,38,33,61,60,62,40,41,91,93,123,125,44,46,58,124]
def endsT (t:Tk):Bool:=decide (t.k=1) || decide (t.k=2) || decide (t.k=3) || (decide (t.k=4) && memB [⟨#[98,114,101,97,107]⟩,⟨#[99,111,110,116,105,110,117,101]⟩,⟨#[114,101,116,117,114,110]⟩] t.tx) || (decide (t.k=5) && memB [⟨#[43,43]⟩,⟨#[45,45]⟩,⟨#[41]⟩,⟨#[93]⟩,⟨#[125]⟩] t.tx)
def lineT (p:Int) (l:List Tk):List Tk:=match l.getLast? with
  | none=>l
  | some t=>if endsT t=true then l ++ [⟨6,p,p,⟨#[10]⟩⟩] else l
def signL (s:ByteArray):Nat:=
  if Lib.hasPrefix s.data.toList [46,46,46]=true then 3 else if memB twosL (s.extract 0 2)=true then 2
  else if 0≤Lib.indexByte onesL (s.data.toList.headD 0) then 1 else 0
set_option maxHeartbeats 1000000 in
theorem letter_calls {n:Nat} {w:World}:Calls Tryz.prog 144 #[.int .u8 n] w fun e w'=>e = .returned (.bool (letterN n))∧w'=w:=by
  obtain ⟨r,hr⟩:∃ r,letterN n=r:=⟨_,rfl⟩;rw [hr];have HR:=zh hr;clear hr;go_enter Tryz.func144,Tryz.ntmps144;go_wp2_with fail
  all_goals
    go_ret;refine ⟨?_,rfl⟩;rw [← HR.out];refine congrArg (fun b=>Ending.returned (.bool b)) (Bool.eq_iff_iff.2 ?_);simp [letterN];try omega
theorem digit_calls {n:Nat} {w:World}:Calls Tryz.prog 113 #[.int .u8 n] w fun e w'=>e = .returned (.bool (digitN n))∧w'=w:=by
  obtain ⟨r,hr⟩:∃ r,digitN n=r:=⟨_,rfl⟩;rw [hr];have HR:=zh hr;clear hr;go_enter Tryz.func113,Tryz.ntmps113;go_wp2_with fail
  all_goals
    go_ret;refine ⟨?_,rfl⟩;rw [← HR.out];refine congrArg (fun b=>Ending.returned (.bool b)) (Bool.eq_iff_iff.2 ?_);simp [digitN];try omega
set_option maxHeartbeats 2000000 in
theorem name_calls {s:ByteArray} {w:World} (hs:s.size≤140737488355328):Calls Tryz.prog 106 #[.string s] w fun e w'=>e = .returned (.int .i64 (nameL s.data.toList))∧w'=w:=by
  (have hsi:(s.size:Int)≤140737488355328:=by omega);go_enter Tryz.func106,Tryz.ntmps106;go_wp2_with fail
  go_loop [3] (fun i=>∃ n:Nat,n≤nameL s.data.toList∧i = .int .i64 n) (fun i=>s.size - (intOf i).toNat)
  case atStart=>exact ⟨0,by omega,rfl⟩
  case round=>
    obtain ⟨n,hn,rfl⟩:=hrel;have hle:=nameL_le (l:=s.data.toList);(have hsz:s.data.toList.length=s.size:=by rw [Array.length_toList];rfl);rw [hsz] at hle;by_cases hlt:n<s.size
    · have hst:=nameL_step hn (by rw [hsz];exact hlt)
      (have hb:s.data.toList[n]'(by rw [hsz];exact hlt)=s[n]:=by rw [Array.getElem_toList];rfl);rw [hb] at hst;obtain ⟨c,hc⟩:∃ c,s[n]=c:=⟨_,rfl⟩;rw [hc] at hst;have HST:=zh hst;have HN:=zh hn;have HC:=zh hc;clear hst hn hb hle;go_wp2_with fail;refine letter_calls.mono ?_;rintro e w1 ⟨rfl,hw⟩;subst w1;by_cases hl:letterN c.toNat=true
      · rw [hl]
        go_wp2_with fail
        go_round
        case rel=>exact ⟨n+1,HST.out.1 (.inl hl),rfl⟩
        case measure=>simp [intOf];omega
      · rw [Bool.eq_false_iff.2 hl]
        have HL:=zh hl;clear hl;by_cases h0:n=0
        · subst h0
          go_wp2_with fail;go_ret;exact ⟨by rw [HST.out.2 (Bool.eq_false_iff.2 HL.out) (by omega)];rfl,rfl⟩
        · have h0':0<n:=by omega
          go_wp2_with fail;refine digit_calls.mono ?_;rintro e w1 ⟨rfl,hw⟩;subst w1;by_cases hd:digitN c.toNat=true
          · rw [hd]
            go_wp2_with fail
            go_round
            case rel=>exact ⟨n+1,HST.out.1 (.inr ⟨h0',hd⟩),rfl⟩
            case measure=>simp [intOf];omega
          · rw [Bool.eq_false_iff.2 hd]
            have HD:=zh hd;clear hd;go_wp2_with fail;go_ret;exact ⟨by rw [HST.out.2 (Bool.eq_false_iff.2 HL.out) (fun _=>Bool.eq_false_iff.2 HD.out)];rfl,rfl⟩
    · have HN:Hid (nameL s.data.toList=n):=zh (by omega)
      go_wp2_with fail;go_ret;exact ⟨by rw [HN.out];rfl,rfl⟩
set_option maxRecDepth 100000
set_option maxHeartbeats 2000000
section
variable {E:Env} {w:World} {i:Nat} {b:Bool}
theorem NoR.row_ {S:Nat→Prop} {n:No} {c0 c1 c2 c3 v:Value} (h:NoR w S n [c0,c1,c2,c3,v]):RowN w S v n.ks:=by
  obtain ⟨k,fr,zto,tx,ks⟩:=n;simp only [NoR] at h;obtain ⟨vk,xs,e,a,b⟩:=h;simp only [List.cons.injEq,and_true] at e;obtain ⟨-,-,-,-,rfl⟩:=e;exact ⟨xs,a,b⟩
theorem typeName_calls (hE:EOk E) {r:Except Int (No×Ps)} (hr:typeNameP E.ts (i,b)=some r) (h:PS E w i b):Calls Tryz.prog 100 #[(.pointer (some ⟨E.g,0,none⟩))] w (Post E noX w (NoV w) r):=by
  have hga:=h.glt;have haa:=h.lt;have hln:=hE.len;have hil:=h.ilt;have HP:=zh h;have HE:=zh hE;have HB0:Hid (But (fun k=>gX E k) w w):=zh zb;clear h hE;have hf0:=tfield0;have hf1:=tfield1;have hf2:=tfield2;have hf3:=tfield3;go_enter Tryz.func100,Tryz.ntmps100;unfold typeNameP at hr;go_wp2_with fail;by_cases hq:(E.tok i).k=1
  case neg=>
   replace hr:=name_bind0 hr hq;subst hr;refine (name_no HE.out (HP.out.alloc _) hq).mono ?_;rintro e wz ⟨rfl,hb⟩;go_wp2_with fail;exact ⟨rfl,(HB0.out.alloc _).then_ hb,rfl⟩
  case pos=>
   replace hr:=name_bind1 hr hq;(try dsimp only at hr);refine (name_yes HE.out (HP.out.alloc _) hq).mono ?_;rintro e w1 ⟨rfl,hp,hb⟩;have hx:=xm hb;have hz1:=hx.size;(try simp at hz1);have hw:But (Xs E []) w w1:=(zb.alloc _).trans hx xg;have Kr1:Hid (Blk w1 w.heap.size 25 #[.int .i64 0,.int .i64 0,.int .i64 0,.string ⟨#[]⟩,.slice none 0 0]):=zh ((Blk.new' (by simp)).but hx (ng (by omega)));have HP1:=zh hp;have HB1:=b0 HB0 hw;clear hw hb hx hp;have Nn1:=nN w1 (E.tok i);clear hq;go_wp2_with fail;by_cases hq:oneOf (E.tok (i+1)) [⟨#[46]⟩]=true
   ·
    replace hr:=take_bind1 hr hq;(try dsimp only at hr);(try rw [if_pos rfl] at hr);refine (take_yes (l:=[⟨#[46]⟩]) HE.out ((HP1.out.alloc _).alloc _) (strs_new (n:=w1.heap.size+1) [⟨#[46]⟩] (by simp) (by simp)) (old_new (by simp)) hq).mono ?_;rintro e w2 ⟨rfl,hp,hb⟩;have hx:=xm hb;have hz2:=hx.size;(try simp at hz2);have hw:But (Xs E []) w1 w2:=((zb.alloc _).alloc _).trans hx xg;have Kr2:=k0 Kr1 hw;have Kn2:Hid (Blk w2 w1.heap.size 25 #[.int .i64 40,.int .i64 (E.tok i).fr,.int .i64 (E.tok i).to,.string (E.tok i).tx,.slice none 0 0]):=zh (((Blk.new' (by simp)).alloc _).but hx (ng (by omega)));have Nn2:=n0 Nn1 hw;have HP2:=zh hp;have HB2:=b0 HB1 hw;clear Kr1 Nn1 HP1 HB1 hw hb hx hp;go_wp2_with fail;by_cases hq:(E.tok (i+1+1)).k=1
    case neg=>
     replace hr:=name_bind0 hr hq;subst hr;refine (name_no HE.out HP2.out hq).mono ?_;rintro e wz ⟨rfl,hb⟩;go_wp2_with fail;exact ⟨rfl,HB2.out.then_ hb,rfl⟩
    case pos=>
     replace hr:=name_bind1 hr hq;(try dsimp only at hr);refine (name_yes HE.out HP2.out hq).mono ?_;rintro e w3 ⟨rfl,hp,hb⟩;have hx:=xm hb;have hz3:=hx.size;(try simp at hz3);have hw:=xs0 hx;have Kr3:=k0 Kr2 hw;have Kn3:=k0 Kn2 hw;have Nn3:=n0 Nn2 hw;have HP3:=zh hp;have HB3:=b0 HB2 hw;clear Kr2 Kn2 Nn2 HP2 HB2 hw hb hx hp;have Nm3:=nN w3 (E.tok (i+1+1));clear hq;obtain ⟨nq0,nq1,nq2,nq3,nq4,nqf,nql⟩:=Kn3.out.cells5;obtain ⟨rq0,rq1,rq2,rq3,rq4,rqf,rql⟩:=Kr3.out.cells5;go_wp2_with fail;refine (made_calls HE.out ((HP3.out.alloc _).alloc _) (by omega)).mono ?_;rintro e w4 ⟨rfl,hb⟩;have hx:=kxb (E:=E) hb;have hz4:=hx.size;(try simp at hz4);have hw:But (Xs E []) w3 w4:=((zb.alloc _).alloc _).trans hx xg;have Kr4:=k0 Kr3 hw;have Kn4:=k0 Kn3 hw;have Km4:Hid (Blk w4 w3.heap.size 25 #[.int .i64 40,.int .i64 (E.tok (i+1+1)).fr,.int .i64 (E.tok (i+1+1)).to,.string (E.tok (i+1+1)).tx,.slice none 0 0]):=zh (((Blk.new' (by simp)).alloc _).but hx (ng (by omega)));have Kks4:Hid (Blk w4 (w3.heap.size+1) 25 #[.int .i64 40,.int .i64 (E.tok i).fr,.int .i64 (E.tok i).to,.string (E.tok i).tx,.slice none 0 0,.int .i64 40,.int .i64 (E.tok (i+1+1)).fr,.int .i64 (E.tok (i+1+1)).to,.string (E.tok (i+1+1)).tx,.slice none 0 0]):=zh ((Blk.new' (by simp)).but hx (ng (by omega)));have Nn4:=n0 Nn3 hw;have Nm4:=n0 Nm3 hw;have HP4:=zh (((HP3.out.alloc _).alloc _).below hb);have HB4:=b0 HB3 hw;clear nq0 nq1 nq2 nq3 nq4 nqf nql rq0 rq1 rq2 rq3 rq4 rqf rql Kr3 Kn3 Nn3 Nm3 HP3 HB3 hw hb hx;obtain ⟨rq0,rq1,rq2,rq3,rq4,rqf,rql⟩:=Kr4.out.cells5;go_wp2_with fail;obtain rfl:=made_end hr;exact node_ret (r:=w.heap.size) Tryz.results100 (by rfl) (Kr4.out.put5 _ _ _ _ _) (by rfl) ⟨(HB4.out.set5 (.inl (by omega)) _ _ _ _ _),(HP4.out.far5 (by omega) (by omega) _ _ _ _ _),_,rfl,_,_,rfl,rowN_blk (n:=2) (Kks4.out.far5 (by omega) _ _ _ _ _) (NosR.cons_ (nk Nn4 (zr.set5 (iv (by omega)) _ _ _ _ _) (by omega) (by first|omega|simp<;>omega)) (NosR.one (nk Nm4 (zr.set5 (iv (by omega)) _ _ _ _ _) (by omega) (by first|omega|simp<;>omega)))) rfl (by decide) (⟨by omega,by simp <;> omega⟩)⟩
   ·
    replace hq:=Bool.eq_false_iff.2 hq;replace hr:=take_bind0 hr hq;(try dsimp only at hr);(try rw [if_neg Bool.false_ne_true] at hr);refine (take_no (l:=[⟨#[46]⟩]) HE.out ((HP1.out.alloc _).alloc _) (strs_new (n:=w1.heap.size+1) [⟨#[46]⟩] (by simp) (by simp)) (old_new (by simp)) hq).mono ?_;rintro e w2 ⟨rfl,hb⟩;have hx:=kxb (E:=E) hb;have hz2:=hx.size;(try simp at hz2);have hw:But (Xs E []) w1 w2:=((zb.alloc _).alloc _).trans hx xg;have Kr2:=k0 Kr1 hw;have Kn2:Hid (Blk w2 w1.heap.size 25 #[.int .i64 40,.int .i64 (E.tok i).fr,.int .i64 (E.tok i).to,.string (E.tok i).tx,.slice none 0 0]):=zh (((Blk.new' (by simp)).alloc _).but hx (ng (by omega)));have Nn2:=n0 Nn1 hw;have HP2:=zh (((HP1.out.alloc _).alloc _).below hb);have HB2:=b0 HB1 hw;clear Kr1 Nn1 HP1 HB1 hw hb hx;obtain ⟨nq0,nq1,nq2,nq3,nq4,nqf,nql⟩:=Kn2.out.cells5;obtain ⟨rq0,rq1,rq2,rq3,rq4,rqf,rql⟩:=Kr2.out.cells5;go_wp2_with fail;obtain rfl:=pure_end hr;exact node_ret (r:=w.heap.size) Tryz.results100 (by rfl) (Kr2.out.put5 _ _ _ _ _) (by rfl) ⟨(HB2.out.set5 (.inl (by omega)) _ _ _ _ _),(HP2.out.far5 (by omega) (by omega) _ _ _ _ _),_,rfl,_,_,rfl,(nk Nn2 (zr.set5 (iv (by omega)) _ _ _ _ _) (by omega) (by first|omega|simp<;>omega)).row_⟩
end
set_option maxRecDepth 100000
set_option maxHeartbeats 2000000
section
variable {E:Env} {w:World} {i:Nat} {b:Bool}
structure One {σ:Type} (E:Env) (X:Nat→Prop) (I:σ→World→Prop) (one:σ→PM (No×σ)) (f:Nat) (args:Array Value) (lo:Nat):Prop where
  call:∀ u w i b r,lo≤i→PS E w i b→I u w→one u (i,b)=some r→Calls Tryz.prog f args w (Post E X w (fun w' x v=>NoV w w' x.1 v∧I x.2 w') r)
  fine:∀ u i b,lo≤i→i<E.ts.length→Fine E.ts (i+1) (one u) i b
  same:∀ u w w',I u w→(∀ k,X k→w'.heap[k]? = w.heap[k]?)→I u w'
  notg:¬ X E.g
  ent:∀ w,(callFunc f args).run Tryz.prog w = .ok (.enter f args) w
structure LS {σ:Type} (E:Env) (X:Nat→Prop) (I:σ→World→Prop) (w wr:World) (i:Nat) (b:Bool) (u:σ) (out:List No) (v:Value) (xs:List Value):Prop where
  ps:PS E wr i b
  kept:I u wr
  own:wr.ownsRow w.heap.size 25 5 v out.length xs
  nos:NosR wr (fun k=>w.heap.size≤k∧k<wr.heap.size∧v.ownBlock≠some k) out xs
  but:But (fun k=>k=E.g∨X k) w wr
  len:out.length≤i+1
theorem LS.row {σ:Type} {X:Nat→Prop} {I:σ→World→Prop} {wr:World} {u:σ} {out:List No} {v:Value} {xs:List Value} (h:LS E X I w wr i b u out v xs):RowN wr (New w wr) v out:=
  ⟨xs,Row.of_own h.own h.own.lt,h.nos.keep zr fun k hk=>⟨hk.1,hk.2.1⟩⟩
theorem LS.old {σ:Type} {X:Nat→Prop} {I:σ→World→Prop} {wr w1:World} {u:σ} {out:List No} {v:Value} {xs:List Value} {f:Nat} {args:Array Value} {lo:Nat} {one:σ→PM (No×σ)} (ho:One E X I one f args lo) (h:LS E X I w wr i b u out v xs) (hX:∀ k,X k→k<w.heap.size) (hb:Below wr.heap.size wr w1):LS E X I w w1 i b u out v xs:=by
  have hz:=h.but.size;have hz1:=hb.size
  exact ⟨h.ps.below hb,ho.same _ _ _ h.kept fun k hk=>hb.block k (by have:=hX k hk;omega),own_below h.own hb,
    h.nos.keep (SameOn.of_below hb fun k hk=>hk.2.1) fun k hk=>⟨hk.1,by omega,hk.2.2⟩,h.but.then_ hb,h.len⟩
theorem PS.same {w1:World} (h:PS E w i b) (h1:w1.heap[E.g]? = w.heap[E.g]?) (h2:w1.heap[E.a]? = w.heap[E.a]?) (hz:w.heap.size≤w1.heap.size):PS E w1 i b:=
  ⟨h1.trans h.blk,fun k hk=>by
    obtain ⟨g1,g2,g3,g4⟩:=h.tok k hk
    exact ⟨(World.cell?_of_block (a:=⟨E.a,_,none⟩) h2).trans g1,(World.cell?_of_block (a:=⟨E.a,_,none⟩) h2).trans g2,(World.cell?_of_block (a:=⟨E.a,_,none⟩) h2).trans g3,(World.cell?_of_block (a:=⟨E.a,_,none⟩) h2).trans g4⟩,
   h.ne,Nat.lt_of_lt_of_le h.lt hz,h.ilt⟩
theorem LS.step {σ:Type} {X:Nat→Prop} {I:σ→World→Prop} {w1 w2 w3:World} {u u2:σ} {out:List No} {v v':Value} {xs cs:List Value} {x:No} {i2:Nat} {o:Obj}
    (hsame:∀ u w w',I u w→(∀ k,X k→w'.heap[k]? = w.heap[k]?)→I u w') (h:LS E X I w w1 i b u out v xs) (hX:∀ k,X k→k<w.heap.size) (hga:E.g<w.heap.size) (haa:E.a<w.heap.size)
    (hb2:But (fun k=>k=E.g∨X k) w1 w2) (hps:PS E w2 i2 b) (hk:I u2 w2) (hx:NoR w2 (New w1 w2) x cs) (hi:out.length≤i2)
    (hown:w3.ownsRow w.heap.size 25 5 v' (out.length+1) (xs ++ cs)) (hg:(w2.alloc o).grownBy w3 v.ownBlock) (hat:v'.ownBlock=v.ownBlock∨v'.ownBlock=some (w2.alloc o).heap.size) :
    LS E X I w w3 i2 b u2 (out ++ [x]) v' (xs ++ cs):=by
  have hz1:=h.but.size;have hz2:=hb2.size;have hz3:=hg.size;simp at hz3;have hl:=h.own.lt
  have hne:∀ k,k<w2.heap.size→v.ownBlock≠some k→v'.ownBlock≠some k:=by
    intro k hk h;rcases hat with e | e <;> rw [e]
    · exact h
    · simp;omega
  have hold:∀ k,k<w2.heap.size→v.ownBlock≠some k→w3.heap[k]? = w2.heap[k]?:=fun k hk hn=>
    (hg.block k (by simp;omega) (fun e=>hn e.symm)).trans (Below.heap_alloc w2 o k hk)
  have hnw:∀ k,k<w.heap.size→v.ownBlock≠some k:=fun k hk e=>by have:=(hl k e).1;omega
  have hnX:∀ k,w.heap.size≤k→¬ (k=E.g∨X k):=fun k hk e=>by
    rcases e with e | e
    · omega
    · have:=hX k e;omega
  refine ⟨hps.same (hold _ (by omega) (hnw _ hga)) (hold _ (by omega) (hnw _ haa)) (by omega),hsame _ _ _ hk fun k hk=>hold k (by have:=hX k hk;omega) (hnw k (hX k hk)),by simpa using hown,?_,?_,by simp;omega⟩
  · refine NosR.append (h.nos.keep (fun k hk=>?_) (fun k hk=>?_)) (NosR.one (hx.keep (fun k hk=>?_) (fun k hk=>?_)))
    · exact (hold k (by omega) hk.2.2).trans (hb2.block k hk.2.1 (hnX k hk.1))
    · exact ⟨hk.1,by omega,hne k (by omega) hk.2.2⟩
    · exact hold k hk.2 (fun e=>by have h1:=hk.1;have h2:=(hl k e).2;omega)
    · have h1:=hk.1
      have h2:=hk.2;exact ⟨by omega,by omega,hne k hk.2 (fun e=>by have:=(hl k e).2;omega)⟩
  · refine ⟨hg.os.trans (hb2.os.trans h.but.os),hg.tape.trans (hb2.tape.trans h.but.tape),hg.output.trans (hb2.output.trans h.but.output),by omega,fun k hk hn=>?_⟩
    exact (hold k (by omega) (hnw k hk)).trans ((hb2.block k (by omega) hn).trans (h.but.block k hk hn))
theorem LS.move {σ:Type} {X:Nat→Prop} {I:σ→World→Prop} {w1 w2:World} {u:σ} {out:List No} {v:Value} {xs:List Value} {j:Nat}
    (hsame:∀ u w w',I u w→(∀ k,X k→w'.heap[k]? = w.heap[k]?)→I u w') (hng:¬ X E.g) (h:LS E X I w w1 i b u out v xs) (hX:∀ k,X k→k<w.heap.size) (hga:E.g<w.heap.size)
    (hb:But (fun k=>k=E.g) w1 w2) (hps:PS E w2 j b) (hj:i≤j):LS E X I w w2 j b u out v xs:=by
  have hz1:=h.but.size;have hz2:=hb.size;have hl:=h.own.lt;refine ⟨hps,hsame _ _ _ h.kept fun k hk=>hb.block k (by have:=hX k hk;omega) (fun e=>hng (e ▸ hk)),own_same h.own fun k hk=>hb.block k (hl k hk).2 (by have:=(hl k hk).1;omega),h.nos.keep (fun k hk=>?_) (fun k hk=>⟨hk.1,by omega,hk.2.2⟩),h.but.trans hb (fun _ _ h=>.inl h),by have:=h.len;omega⟩;exact hb.block k hk.2.1 (by have:=hk.1;omega)
theorem one5 {k fr zto:Int} {tx:ByteArray} {A:Option Addr} {n c:Nat}:∀ u ∈ [Value.int .i64 k,.int .i64 fr,.int .i64 zto,.string tx,.slice A n c],u.oneCell'=true:=by
  intro u hu;simp only [List.mem_cons,List.not_mem_nil,or_false] at hu;rcases hu with rfl | rfl | rfl | rfl | rfl <;> rfl
theorem info_node:(Tryz.prog.info? 25).map (fun i=>(i.zero,i.size,i.bytes))=some (some (.agg #[.int .i64 0,.int .i64 0,.int .i64 0,.string ByteArray.empty,.slice none 0 0]),5,64):=by kernel_rfl
theorem info_parts {P:Program} {t:TypeId} {z:Option Value} {a c:Nat} (h:(P.info? t).map (fun i=>(i.zero,i.size,i.bytes))=some (z,a,c)):∃ i,P.info? t=some i∧i.zero=z∧i.size=a∧i.bytes=c:=by
  cases hi:P.info? t with
  | none=>rw [hi] at h;cases h
  | some i=>
    rw [hi] at h;simp only [Option.map_some,Option.some.injEq,Prod.mk.injEq] at h;exact ⟨i,rfl,h.1,h.2.1,h.2.2⟩
theorem list_calls (hE:EOk E) {σ:Type} {X:Nat→Prop} {I:σ→World→Prop} {one:σ→PM (No×σ)} {n lo least:Nat} {first cap args:Array Value} {closing:ByteArray} (ho:One E X I one n args lo) (ha:first ++ cap=args)
    {u:σ} {r:Except Int ((List No×σ)×Ps)} (hr:listP E.ts closing least one (E.ts.length+1) u [] (i,b)=some r) (h:PS E w i b) (hu:I u w) (hlo:lo≤i) (hle:least≤1) (hX:∀ k,X k→k<w.heap.size) :
    Calls Tryz.prog 95 #[(.pointer (some ⟨E.g,0,none⟩)),.string closing,.int .i64 least,.func (.func n) first cap] w (Post E X w (fun w' x v=>NosV w w' x.1 v∧I x.2 w') r):=by
  subst ha;have hga:=h.glt;have haa:=h.lt;have hln:=hE.len;have hil:=h.ilt;have HP:=zh h;have HE:=zh hE;have hent:=ho.ent;have HO:=zh ho;have HR:=zh hr;have HU:=zh hu;have HX:=zh hX;clear h hE ho hr hu hX;go_enter Tryz.func95,Tryz.ntmps95;go_wp2_with fail;obtain ⟨i0,hi0,iz0,iz1,iz2⟩:=info_parts info_node
  go_loopg [9] (E.ts.length+1) (fun m s9 wr=>∃ (f i':Nat) (u':σ) (out:List No) (B:Option Addr) (c:Nat) (xs:List Value),m=f∧lo≤i'∧s9 = .slice B out.length c∧Hid (listP E.ts closing least one f u' out (i',b)=some r)∧Hid (LS E X I w wr i' b u' out (.slice B out.length c) xs))
  case atStart=>exact ⟨E.ts.length+1,i,u,[],none,0,[],rfl,hlo,rfl,HR.out,⟨HP.out,HU.out,World.ownsRow_nil _ _ _ _,NosR.nil_,zb,Nat.zero_le _⟩⟩
  case round=>
    obtain ⟨f,i',u',out,B,c,xs,rfl,hlo',rfl,HR',HL⟩:=hrel;cases gk with
    | zero=>exact absurd HR'.out (by simp [listP])
    | succ f=>
      have hr:=HR'.out;unfold listP at hr;replace hr:=is_bind hr;(try dsimp only at hr);have hil':=HL.out.ps.ilt;have hlen:=HL.out.len;have HRR:=zh hr;clear hr HR';go_wp2_with fail;refine (is_calls (l:=[closing]) HE.out (HL.out.ps.alloc _) (str_one (n:=wr.heap.size) rfl) (old_new rfl)).mono ?_;rintro e w1 ⟨rfl,hb1⟩;have hx1:Below wr.heap.size wr w1:=(below_al _ _).trans (hb1.mono (by simp));have hz1:=hx1.size;have HL1:Hid (LS E X I w w1 i' b u' out (.slice B out.length c) xs):=zh (HL.out.old HO.out HX.out hx1);clear hb1 hx1 HL;by_cases hc:oneOf (E.tok i') [closing]=true∧¬ out.length<least
      case pos=>
        have hr:=HRR.out;rw [if_pos hc] at hr;obtain rfl:=pure_end hr;rw [hc.1];(have hl2:¬ (out.length:Int)<(least:Int):=by have:=hc.2;omega);clear hc hr HRR;go_wp2_with fail;go_ret;exact ⟨HL1.out.but,HL1.out.ps,_,rfl,⟨_,_,rfl,HL1.out.row⟩,HL1.out.kept⟩
      case neg=>
        have hr:=HRR.out;rw [if_neg hc] at hr;clear HRR
        have hgo:oneOf (E.tok i') [closing]=false∨(oneOf (E.tok i') [closing]=true∧(out.length:Int)<(least:Int)):=by
          cases hq:oneOf (E.tok i') [closing]
          · exact .inl rfl
          · exact .inr ⟨rfl,by have h:=Classical.not_not.1 fun h=>hc ⟨hq,h⟩;omega⟩
        clear hc;have HRR:=zh hr;clear hr;rcases hgo with hq | ⟨hq,hl2⟩
        all_goals
          rw [hq];clear hq;go_wp2_with fail;obtain ⟨rx,h1,hr⟩:=bind_cases HRR.out;refine (HO.out.call u' w1 i' b rx hlo' HL1.out.ps HL1.out.kept h1).mono ?_;rintro e w2 ⟨hb2,hp2⟩;rcases rx with p | ⟨⟨x,u2⟩,i2,b2⟩
          · dsimp only at hp2 hr
            subst hp2;subst hr;go_wp2_with fail;exact ⟨rfl,HL1.out.but.trans hb2 (fun _ _ h=>h),rfl⟩
          · obtain ⟨hps,v,rfl,⟨A2,c2,rfl,hrow⟩,hk2⟩:=hp2
            dsimp only at hr hps hrow hk2;obtain ⟨hi2,-,hbb⟩:=(HO.out.fine u' i' b hlo' hil').2 _ _ h1;dsimp only at hi2 hbb;subst b2;have hz2:=hb2.size;have hzw:=HL1.out.but.size;have HR2:=zh hr;have HB2:=zh hb2;have HP2:=zh hps;have HK2:=zh hk2;have hil2:=hps.ilt;have HX2:Hid (NoR w2 (New w1 w2) x [.int .i64 x.k,.int .i64 x.fr,.int .i64 x.to,.string x.tx,.slice A2 x.ks.length c2]):=zh (NoR.mk_ hrow)
            have HO2:Hid (w2.ownsRow w.heap.size 25 5 (.slice B out.length c) out.length xs):=zh (own_same HL1.out.own fun k hk=>hb2.block k (HL1.out.own.lt k hk).2 (fun e=>by
              have h3:=(HL1.out.own.lt k hk).1;rcases e with e | e
              · omega
              · have:=HX.out k e;omega))
            clear hr hb2 hps hk2 hrow h1;go_wp2_with (at_builtin;refine wpList_append_row _ rfl _ _ 23 rfl w.heap.size 25 i0 _ 5 64 Tryz.underlying23 hi0 iz0 iz1 iz2 rfl (by omega) (.slice B out.length c) out.length xs rfl (HO2.out.alloc _) (fun k=>k=w2.heap.size) (.slice (some ⟨w2.heap.size,0,none⟩) 1 1) 1 [.int .i64 x.k,.int .i64 x.fr,.int .i64 x.to,.string x.tx,.slice A2 x.ks.length c2] rfl ((Blk.new w2 _ _).row (n:=1) rfl (by unfold maxLen;omega) rfl) one5 (by unfold maxLen;omega) (by omega) (by simp;omega) ?_);intro v' w3 hown hg hnil hat;obtain ⟨B3,c3,rfl⟩:=own_form hown;have HL3:=zh (LS.step HO.out.same HL1.out HX.out hga haa HB2.out HP2.out HK2.out HX2.out (by omega) hown hg (by simpa using hat));clear hown hg hnil hat HO2 HX2 HB2 HP2 HK2 HL1;rw [show out.length+1=(out ++ [x]).length from by simp] at HL3 ⊢;by_cases hq:oneOf (E.tok i2) [⟨#[44]⟩]=true
            · have hr:=take_bind1 HR2.out hq
              rw [if_pos rfl] at hr;have HRR:=zh hr;clear hr HR2;go_wp2_with fail;refine (take_yes (l:=[⟨#[44]⟩]) HE.out (HL3.out.ps.alloc _) (str_one (n:=w3.heap.size) rfl) (old_new rfl) hq).mono ?_;rintro e w4 ⟨rfl,hp4,hb4⟩;have HL4:=zh (LS.move HO.out.same HO.out.notg (HL3.out.old HO.out HX.out (below_al _ _)) HX.out hga hb4 hp4 (by omega));clear hp4 hb4 HL3;go_wp2_with fail
              go_roundg f
              case measure=>omega
              case rel=>exact ⟨f,i2+1,u2,out ++ [x],B3,c3,_,rfl,by omega,by simp,HRR,HL4⟩
            · replace hq:=Bool.eq_false_iff.2 hq
              have hr:=take_bind0 HR2.out hq;rw [if_neg (by decide)] at hr;obtain rfl:=pure_end hr;clear hr HR2;go_wp2_with fail;refine (take_no (l:=[⟨#[44]⟩]) HE.out (HL3.out.ps.alloc _) (str_one (n:=w3.heap.size) rfl) (old_new rfl) hq).mono ?_;rintro e w4 ⟨rfl,hb4⟩;have HL4:=zh ((HL3.out.old HO.out HX.out (below_al _ _)).old HO.out HX.out hb4);clear hb4 HL3;go_wp2_with fail;go_ret;exact ⟨HL4.out.but,HL4.out.ps,_,rfl,⟨B3,c3,by simp,HL4.out.row⟩,HL4.out.kept⟩
end
def escU (e:UInt8):Option UInt8:=if e=92∨e=34 then some e else if e=110 then some 10 else if e=116 then some 9 else none
def textR (fr:Nat):List UInt8→Nat→List UInt8→Except Int (Nat×List UInt8)
  | [],_,_=>.error fr
  | c :: t,p,acc=>if c=10 then .error fr else if c=34 then .ok (p+1,acc)
    else if c=92 then (match t with
      | []=>.error p
      | e :: t'=>match escU e with
        | none=>.error p
        | some x=>textR fr t' (p+2) (acc ++ [x]))
    else textR fr t (p+1) (acc ++ [c])
def numR (r:List UInt8):Option Nat:=
  if (r.headD 0=48∧1<(r.takeWhile digU).length)∨200<(r.takeWhile digU).length∨(∃ c ∈ (r.drop (r.takeWhile digU).length).head?,letU c=true) then none else some (r.takeWhile digU).length
def remR (r:List UInt8):Option Nat:=
  if r.getD 1 0=42 then (if Lib.index (r.drop 2) [42,47]<0 then none else some ((Lib.index (r.drop 2) [42,47]).toNat+4))
  else some (if Lib.indexByte r 10<0 then r.length else (Lib.indexByte r 10).toNat)
def bs (l:List UInt8):ByteArray:=⟨l.toArray⟩
def scanL:Nat→List UInt8→Nat→List Tk→Except Int (List Tk)
  | 0,_,_,l=>.ok l
  | _+1,[],p,l=>.ok (lineT p l ++ [⟨7,p,p,⟨#[]⟩⟩])
  | f+1,c :: t,p,l=>
    if c=10 then scanL f t (p+1) (lineT p l)
    else if c=32∨c=9∨c=13 then scanL f t (p+1) l
    else if c=47∧(t.headD 0=47∨t.headD 0=42) then
      match remR (c :: t) with
      | none=>.error p
      | some n=>scanL f ((c :: t).drop n) (p+n) (if 0≤Lib.indexByte ((c :: t).take n) 10 then lineT p l else l)
    else if 60<nameL (c :: t) then .error p
    else if 0<nameL (c :: t) then scanL f ((c :: t).drop (nameL (c :: t))) (p+nameL (c :: t)) (l ++ [⟨if wordB (bs ((c :: t).take (nameL (c :: t))))=true then 4 else 1,p,p+nameL (c :: t),bs ((c :: t).take (nameL (c :: t)))⟩])
    else if digU c=true then
      match numR (c :: t) with
      | none=>.error p
      | some n=>scanL f ((c :: t).drop n) (p+n) (l ++ [⟨2,p,p+n,bs ((c :: t).take n)⟩])
    else if c=34 then
      match textR p t (p+1) [] with
      | .error e=>.error e
      | .ok (q,tx)=>scanL f ((c :: t).drop (q - p)) q (l ++ [⟨3,p,q,bs tx⟩])
    else if c=59 then scanL f t (p+1) (l ++ [⟨6,p,p+1,⟨#[59]⟩⟩])
    else if signL (bs (c :: t))=0 then .error p
    else scanL f ((c :: t).drop (signL (bs (c :: t)))) (p+signL (bs (c :: t))) (l ++ [⟨5,p,p+signL (bs (c :: t)),bs ((c :: t).take (signL (bs (c :: t))))⟩])
theorem ext_bs {s:ByteArray} {p n:Nat}:s.extract p (p+n)=bs ((s.data.toList.drop p).take n):=by
  apply ByteArray.ext;apply Array.ext';rw [Lib.extract_data,Nat.add_sub_cancel_left];rfl
theorem ext_end {s:ByteArray} {p:Nat}:s.extract p s.size=bs (s.data.toList.drop p):=by
  apply ByteArray.ext;apply Array.ext';rw [Lib.extract_to_end];rfl
set_option maxRecDepth 100000
set_option maxHeartbeats 2000000
section
variable {E:Env} {w:World} {i:Nat} {b:Bool}
structure OneQ (E:Env) (X:Nat→Prop) (I:World→Prop) (one:PM (No×Bool)) (f:Nat) (args:Array Value) (lo:Nat):Prop where
  call:∀ w i b r,lo≤i→PS E w i b→I w→one (i,b)=some r→Calls Tryz.prog f args w (Post E X w (fun w' x v=>NoQ w w' x v∧I w') r)
  fine:∀ i b,lo≤i→i<E.ts.length→Fine E.ts i one i b
  ent:∀ w,(callFunc f args).run Tryz.prog w = .ok (.enter f args) w
structure Ends (E:Env) (I:World→Prop) (ends:Tk→Bool) (f:Nat) (args:Array Value):Prop where
  call:∀ w i b,PS E w i b→I w→Calls Tryz.prog f args w (fun e w'=>e = .returned (.bool (ends (E.tok i)))∧Below w.heap.size w w')
  ent:∀ w,(callFunc f args).run Tryz.prog w = .ok (.enter f args) w
theorem LS.old2 {X:Nat→Prop} {I:World→Prop} {wr w1:World} {out:List No} {v:Value} {xs:List Value} (hs:∀ w w',I w→(∀ k,X k→w'.heap[k]? = w.heap[k]?)→I w') (h:LS E X (fun _:Unit=>I) w wr i b () out v xs) (hX:∀ k,X k→k<w.heap.size) (hb:Below wr.heap.size wr w1):LS E X (fun _:Unit=>I) w w1 i b () out v xs:=by
  have hz:=h.but.size;have hz1:=hb.size
  exact ⟨h.ps.below hb,hs _ _ h.kept fun k hk=>hb.block k (by have:=hX k hk;omega),own_below h.own hb,
    h.nos.keep (SameOn.of_below hb fun k hk=>hk.2.1) fun k hk=>⟨hk.1,by omega,hk.2.2⟩,h.but.then_ hb,h.len⟩
theorem LS.skip {X:Nat→Prop} {I:World→Prop} {w1 w2:World} {out:List No} {v:Value} {xs:List Value} {i2:Nat} (h:LS E X (fun _:Unit=>I) w w1 i b () out v xs) (hX:∀ k,X k→k<w.heap.size) (hga:E.g<w.heap.size)
    (hb2:But (fun k=>k=E.g∨X k) w1 w2) (hps:PS E w2 i2 b) (hk:I w2) (hi:i≤i2):LS E X (fun _:Unit=>I) w w2 i2 b () out v xs:=by
  have hz1:=h.but.size;have hz2:=hb2.size;have hl:=h.own.lt
  have hnX:∀ k,w.heap.size≤k→¬ (k=E.g∨X k):=fun k hk e=>by
    rcases e with e | e
    · omega
    · have:=hX k e;omega
  exact ⟨hps,hk,own_same h.own fun k hk=>hb2.block k (hl k hk).2 (hnX k (hl k hk).1),h.nos.keep (fun k hk=>hb2.block k hk.2.1 (hnX k hk.1)) (fun k hk=>⟨hk.1,by omega,hk.2.2⟩),h.but.trans hb2 (fun _ _ h=>h),by have:=h.len;omega⟩
theorem row_calls (hE:EOk E) {X:Nat→Prop} {I:World→Prop} {one:PM (No×Bool)} {ends:Tk→Bool} {n m lo:Nat} {first cap cape args:Array Value} (ho:OneQ E X I one n args lo) (ha:first ++ cap=args) (he:Ends E I ends m cape)
    (hs:∀ w w',I w→(∀ k,X k→w'.heap[k]? = w.heap[k]?)→I w') (hng:¬ X E.g)
    {r:Except Int (List No×Ps)} (hr:rowP E.ts ends one (E.ts.length+1) [] (i,b)=some r) (h:PS E w i b) (hu:I w) (hlo:lo≤i) (hX:∀ k,X k→k<w.heap.size) :
    Calls Tryz.prog 141 #[(.pointer (some ⟨E.g,0,none⟩)),.func (.func m) #[] cape,.func (.func n) first cap] w (Post E X w (fun w' x v=>NosV w w' x v∧I w') r):=by
  subst ha;have hga:=h.glt;have haa:=h.lt;have hln:=hE.len;have hil:=h.ilt;have HP:=zh h;have HE:=zh hE;have hent:=ho.ent;have hene:=he.ent;have HO:=zh ho;have HN:=zh he;have HR:=zh hr;have HU:=zh hu;have HX:=zh hX;have HS:=zh hs;have HG:=zh hng;clear h hE ho hr hu hX he hs hng;go_enter Tryz.func141,Tryz.ntmps141;go_wp2_with fail;obtain ⟨i0,hi0,iz0,iz1,iz2⟩:=info_parts info_node
  go_loopg [7] (E.ts.length+1) (fun m s7 wr=>∃ (f i':Nat) (out:List No) (B:Option Addr) (c:Nat) (xs:List Value),m=f∧lo≤i'∧out.length≤i'∧s7 = .slice B out.length c∧Hid (rowP E.ts ends one f out (i',b)=some r)∧Hid (LS E X (fun _:Unit=>I) w wr i' b () out (.slice B out.length c) xs))
  case atStart=>exact ⟨E.ts.length+1,i,[],none,0,[],rfl,hlo,Nat.zero_le _,rfl,HR.out,⟨HP.out,HU.out,World.ownsRow_nil _ _ _ _,NosR.nil_,zb,Nat.zero_le _⟩⟩
  case round=>
    obtain ⟨f,i',out,B,c,xs,rfl,hlo',hle',rfl,HR',HL⟩:=hrel;cases gk with
    | zero=>exact absurd HR'.out (by simp [rowP])
    | succ f=>
      have hr:=HR'.out;unfold rowP at hr;replace hr:=now_bind hr;(try dsimp only at hr);have hil':=HL.out.ps.ilt;have hlen:=HL.out.len;have HRR:=zh hr;clear hr HR';go_wp2_with fail;refine (HN.out.call wr i' b HL.out.ps HL.out.kept).mono ?_;rintro e w1 ⟨rfl,hb1⟩;have hz1:=hb1.size;have HL1:=zh (HL.out.old2 HS.out HX.out hb1);clear hb1 HL;by_cases hc:ends (E.tok i')=true
      case pos=>
        have hr:=HRR.out;rw [if_pos hc] at hr;obtain rfl:=pure_end hr;rw [hc];clear hc hr HRR;go_wp2_with fail;go_ret;exact ⟨HL1.out.but,HL1.out.ps,_,rfl,⟨_,_,rfl,HL1.out.row⟩,HL1.out.kept⟩
      case neg=>
        have hr:=HRR.out;rw [if_neg hc] at hr;rw [Bool.eq_false_iff.2 hc];clear HRR hc;have HRR:=zh hr;clear hr;go_wp2_with fail;obtain ⟨rx,h1,hr⟩:=bind_cases HRR.out;refine (HO.out.call w1 i' b rx hlo' HL1.out.ps HL1.out.kept h1).mono ?_;rintro e w2 ⟨hb2,hp2⟩;rcases rx with p | ⟨⟨x,q⟩,i2,b2⟩
        · dsimp only at hp2 hr
          subst hp2;subst hr;go_wp2_with fail;exact ⟨rfl,HL1.out.but.trans hb2 (fun _ _ h=>h),rfl⟩
        · obtain ⟨hps,v,rfl,⟨A2,c2,rfl,hrow⟩,hk2⟩:=hp2
          dsimp only at hr hps hrow hk2;obtain ⟨hi2,-,hbb⟩:=(HO.out.fine i' b hlo' hil').2 _ _ h1;dsimp only at hi2 hbb;subst b2;have hz2:=hb2.size;have hzw:=HL1.out.but.size;replace hr:=now_bind hr;(try dsimp only at hr);have HR2:=zh hr;have HB2:=zh hb2;have HP2:=zh hps;have HK2:=zh hk2;have hil2:=hps.ilt;have HX2:Hid (NoR w2 (New w1 w2) x [.int .i64 x.k,.int .i64 x.fr,.int .i64 x.to,.string x.tx,.slice A2 x.ks.length c2]):=zh (NoR.mk_ hrow);clear hr hb2 hps hk2 hrow h1
          go_upto_region 4 with fail
          obtain ⟨W,hW⟩:∃ W,W=w2.alloc (.cells #[.int .i64 x.k,.int .i64 x.fr,.int .i64 x.to,.string x.tx,.slice A2 x.ks.length c2] 25):=⟨_,rfl⟩;rw [← hW];(have hzW:w2.heap.size<W.heap.size:=by rw [hW];simp);(have hBW:Blk W w2.heap.size 25 #[.int .i64 x.k,.int .i64 x.fr,.int .i64 x.to,.string x.tx,.slice A2 x.ks.length c2]:=by rw [hW];exact Blk.new _ _ _);(have hwW:Below w2.heap.size w2 W:=by rw [hW];exact below_al _ _);have HBW:=zh hBW;have HPW:=zh (HP2.out.below hwW);have HBB:=zh (HB2.out.then_ hwW);have HKW:=zh (HS.out _ _ HK2.out fun k hk=>hwW.block k (by have:=HX.out k hk;omega));have HXW:Hid (NoR W (New w1 W) x [.int .i64 x.k,.int .i64 x.fr,.int .i64 x.to,.string x.tx,.slice A2 x.ks.length c2]):=zh (HX2.out.keep (SameOn.of_below hwW fun k hk=>hk.2) fun k hk=>⟨hk.1,by have:=hk.2;omega⟩)
          have HOW:Hid (W.ownsRow w.heap.size 25 5 (.slice B out.length c) out.length xs):=zh (own_below (own_same HL1.out.own fun k hk=>HB2.out.block k (HL1.out.own.lt k hk).2 (fun e=>by
            have h3:=(HL1.out.own.lt k hk).1;rcases e with e | e
            · omega
            · have:=HX.out k e;omega)) hwW)
          clear hW hBW hwW HX2 HP2 HK2 HB2;obtain ⟨xq0,xq1,xq2,xq3,xq4,xqf,xql⟩:=HBW.out.cells5
          go_upto_if 18 with fail
          go_cut [7] (fun s7 V=>∃ (B3:Option Addr) (c3:Nat) (x3:List Value),s7 = .slice B3 (if q=true then out ++ [x] else out).length c3∧Hid (LS E X (fun _:Unit=>I) w V i2 b () (if q=true then out ++ [x] else out) (.slice B3 (if q=true then out ++ [x] else out).length c3) x3))
          case first=>
            cases q with
            | false=>
              go_wp2_with fail
              go_meet
              exact ⟨B,c,xs,rfl,HL1.out.skip HX.out hga HBB.out HPW.out HKW.out hi2⟩
            | true=>
              go_wp2_with (at_builtin;refine wpList_append_row _ rfl _ _ 23 rfl w.heap.size 25 i0 _ 5 64 Tryz.underlying23 hi0 iz0 iz1 iz2 rfl (by omega) (.slice B out.length c) out.length xs rfl (HOW.out.alloc _) (fun k=>k=W.heap.size) (.slice (some ⟨W.heap.size,0,none⟩) 1 1) 1 [.int .i64 x.k,.int .i64 x.fr,.int .i64 x.to,.string x.tx,.slice A2 x.ks.length c2] rfl ((Blk.new W _ _).row (n:=1) rfl (by unfold maxLen;omega) rfl) one5 (by unfold maxLen;omega) (by omega) (by simp;omega) ?_);intro v' w3 hown hg hnil hat;obtain ⟨B3,c3,rfl⟩:=own_form hown;have HL3:=zh (LS.step (u2:=()) (fun _=>HS.out) HL1.out HX.out hga haa HBB.out HPW.out HKW.out HXW.out (by omega) hown hg (by simpa using hat));clear hown hg hnil hat;go_wp2_with fail
              go_meet
              exact ⟨B3,c3,_,by simp,by simpa using HL3⟩
          case rest=>
            obtain ⟨B3,c3,x3,rfl,HL3⟩:=hcut;clear xq0 xq1 xq2 xq3 xq4 xqf xql HBW HPW HBB HKW HXW HOW HL1;obtain ⟨out2,ho2⟩:∃ l,(if q=true then out ++ [x] else out)=l:=⟨_,rfl⟩;(have hlen2:out2.length≤i2+1:=by rw [← ho2];exact HL3.out.len);rw [ho2] at HL3 HR2 ⊢;clear ho2;go_wp2_with fail;refine (HN.out.call wc i2 b HL3.out.ps HL3.out.kept).mono ?_;rintro e w4 ⟨rfl,hb4⟩;have HL4:=zh (HL3.out.old2 HS.out HX.out hb4);clear hb4 HL3;by_cases hc:ends (E.tok i2)=true
            · have hr:=HR2.out
              rw [if_pos hc] at hr;obtain rfl:=pure_end hr;rw [hc];clear hc hr HR2;go_wp2_with fail;go_ret;exact ⟨HL4.out.but,HL4.out.ps,_,rfl,⟨_,_,rfl,HL4.out.row⟩,HL4.out.kept⟩
            · have hr:=HR2.out
              rw [if_neg hc] at hr;rw [Bool.eq_false_iff.2 hc];clear hc HR2;go_wp2_with fail;by_cases hq:(E.tok i2).k=6
              · replace hr:=semi_bind1 hr hq
                have HRR:=zh hr;clear hr;refine (semi_yes HE.out HL4.out.ps hq).mono ?_;rintro e w5 ⟨rfl,hp5,hb5⟩;have HL5:=zh (LS.move (fun _=>HS.out) HG.out HL4.out HX.out hga hb5 hp5 (by omega));clear hp5 hb5 HL4 hq;go_wp2_with fail
                go_roundg f
                case measure=>omega
                case rel=>exact ⟨f,i2+1,out2,B3,c3,x3,rfl,by omega,by omega,rfl,HRR,HL5⟩
              · obtain rfl:=semi_bind0 hr hq
                refine (semi_no HE.out HL4.out.ps hq).mono ?_;rintro e w5 ⟨rfl,hb5⟩;clear hq hr;go_wp2_with fail;exact ⟨rfl,HL4.out.but.then_ hb5,rfl⟩
end
def NoVS (S:Nat→Prop) (w w':World) (x:No) (v:Value):Prop:=∃ A c,v = .agg #[.int .i64 x.k,.int .i64 x.fr,.int .i64 x.to,.string x.tx,.slice A x.ks.length c]∧RowN w' (fun k=>S k∨New w w' k) (.slice A x.ks.length c) x.ks
structure OkG (E:Env) (G:Gr):Prop where
  typ:∀ {w:World} {i:Nat} {b:Bool} {r:Except Int (No×Ps)},G.typ (i,b)=some r→PS E w i b→Calls Tryz.prog 79 #[(.pointer (some ⟨E.g,0,none⟩))] w (Post E noX w (NoV w) r)
  expr:∀ {w:World} {i:Nat} {b:Bool} {r:Except Int (No×Ps)},G.expr (i,b)=some r→PS E w i b→Calls Tryz.prog 21 #[(.pointer (some ⟨E.g,0,none⟩))] w (Post E noX w (NoV w) r)
  unary:∀ {w:World} {i:Nat} {b:Bool} {r:Except Int (No×Ps)},G.unary (i,b)=some r→PS E w i b→Calls Tryz.prog 38 #[(.pointer (some ⟨E.g,0,none⟩))] w (Post E noX w (NoV w) r)
  binary:∀ {w:World} {i:Nat} {b:Bool} {r:Except Int (No×Ps)} {x:No} {cs:List Value} {least:Nat} {S:Nat→Prop},G.binary x least (i,b)=some r→PS E w i b→NoR w S x cs→(∀ k,S k→k<w.heap.size∧k≠E.g)→1≤least∧least≤6→1≤i→
    Calls Tryz.prog 37 #[(.pointer (some ⟨E.g,0,none⟩)),.agg cs.toArray,.int .i64 least] w (Post E noX w (NoVS S w) r)
  suffixes:∀ {w:World} {i:Nat} {b:Bool} {r:Except Int (No×Ps)} {x:No} {cs:List Value} {S:Nat→Prop},G.suffixes x (i,b)=some r→PS E w i b→NoR w S x cs→(∀ k,S k→k<w.heap.size∧k≠E.g)→1≤i→
    Calls Tryz.prog 86 #[(.pointer (some ⟨E.g,0,none⟩)),.agg cs.toArray] w (Post E noX w (NoVS S w) r)
  stmt:∀ {w:World} {i:Nat} {b:Bool} {r:Except Int ((No×Bool)×Ps)},G.stmt (i,b)=some r→PS E w i b→1≤i→Calls Tryz.prog 138 #[(.pointer (some ⟨E.g,0,none⟩))] w (Post E noX w (NoQ w) r)
  branch:∀ {w:World} {i:Nat} {b:Bool} {r:Except Int (No×Ps)},G.branch (i,b)=some r→PS E w i b→1≤i→oneOf (E.tok i) [⟨#[105,102]⟩]=true→Calls Tryz.prog 167 #[(.pointer (some ⟨E.g,0,none⟩))] w (Post E noX w (NoV w) r)
theorem okG_zero (E:Env):OkG E noG where
  typ h _:=by simp [noG] at h
  expr h _:=by simp [noG] at h
  unary h _:=by simp [noG] at h
  binary h _ _ _ _ _:=by simp [noG] at h
  suffixes h _ _ _ _:=by simp [noG] at h
  stmt h _ _:=by simp [noG] at h
  branch h _ _ _:=by simp [noG] at h
set_option maxRecDepth 100000
set_option maxHeartbeats 2000000
section
variable {E:Env} {G:Gr} {lo:Nat} {w:World} {i:Nat} {b:Bool}
theorem paramOne_calls (hE:EOk E) (hF:GF E.ts G lo) (hO:OkG E G) {cb pb:Nat} (hcg:cb≠E.g) (hpg:pb≠E.g) (hca:cb≠E.a) (hpa:pb≠E.a) (hcp:cb≠pb) {any_:Bool} {r:Except Int ((No×Bool)×Ps)} (hr:paramOne E.ts G any_ (i,b)=some r) (h:PS E w i b) (hi:lo<i)
    (hc:Blk w cb 4 #[.bool any_]) (hp:Blk w pb 49 #[(.pointer (some ⟨E.g,0,none⟩))]) :
    Calls Tryz.prog 135 #[.pointer (some ⟨cb,0,none⟩),.pointer (some ⟨pb,0,none⟩)] w (Post E (fun k=>k=cb∨k=pb) w (fun w' x v=>NoV w w' x.1 v∧Blk w' cb 4 #[.bool x.2]∧Blk w' pb 49 #[(.pointer (some ⟨E.g,0,none⟩))]) r):=by
  have hga:=h.glt;have haa:=h.lt;have hln:=hE.len;have hil:=h.ilt;have hcl:=hc.lt;have hpl:=hp.lt;have HP:=zh h;have HE:=zh hE;have HF:=zh hF;have HO:=zh hO;have Kany0:=zh hc;have Kp0:=zh hp;have HB0:Hid (But (fun k=>k=E.g∨(k=cb∨k=pb)) w w):=zh zb;clear h hE hF hO hc hp;have hf0:=tfield0;have hf1:=tfield1;have hf2:=tfield2;have hf3:=tfield3;go_enter Tryz.func135,Tryz.ntmps135;unfold paramOne at hr;cases any_
  case true=>
   rw [if_pos rfl] at hr;replace hr:=bad_end hr;have anyq0:=Kany0.out.cell 0;simp at anyq0;have anyqf:=Kany0.out.frozen;have anyql:=Kany0.out.lt;have pq0:=Kp0.out.cell 0;simp at pq0;have pqf:=Kp0.out.frozen;have pql:=Kp0.out.lt;go_wp2_with fail;refine (bad_calls HE.out (HP.out.alloc _)).mono ?_;rintro e wz ⟨rfl,hb⟩;subst hr;go_wp2_with fail;exact ⟨rfl,(HB0.out.alloc _).then_ hb,rfl⟩
  case false=>
   rw [if_neg (by decide)] at hr;have anyq0:=Kany0.out.cell 0;simp at anyq0;have anyqf:=Kany0.out.frozen;have anyql:=Kany0.out.lt;have pq0:=Kp0.out.cell 0;simp at pq0;have pqf:=Kp0.out.frozen;have pql:=Kp0.out.lt;go_wp2_with fail;replace hr:=from_bind hr;(try dsimp only at hr);refine (from_calls HE.out (HP.out.alloc _)).mono ?_;rintro e w1 ⟨rfl,hb⟩;have hx:=kxb (E:=E) hb;have hz1:=hx.size;(try simp at hz1);have hw:But (Xs E []) w w1:=(zb.alloc _).trans hx xg;have Kany1:=k0 Kany0 hw;have Kp1:=k0 Kp0 hw;have Kr1:Hid (Blk w1 w.heap.size 25 #[.int .i64 0,.int .i64 0,.int .i64 0,.string ⟨#[]⟩,.slice none 0 0]):=zh ((Blk.new' (by simp)).but hx (ng (by omega)));have HP1:=zh ((HP.out.alloc _).below hb);have HB1:=b0 HB0 hw;clear anyq0 anyqf anyql pq0 pqf pql Kany0 Kp0 hw hb hx;have pq0:=Kp1.out.cell 0;simp at pq0;have pqf:=Kp1.out.frozen;have pql:=Kp1.out.lt;go_wp2_with fail;by_cases hq:(E.tok i).k=1
   case neg=>
    replace hr:=name_bind0 hr hq;subst hr;refine (name_no HE.out HP1.out hq).mono ?_;rintro e wz ⟨rfl,hb⟩;go_wp2_with fail;exact ⟨rfl,HB1.out.then_ hb,rfl⟩
   case pos=>
    replace hr:=name_bind1 hr hq;(try dsimp only at hr);refine (name_yes HE.out HP1.out hq).mono ?_;rintro e w2 ⟨rfl,hp,hb⟩;have hx:=xm hb;have hz2:=hx.size;(try simp at hz2);have hw:=xs0 hx;have Kany2:=k0 Kany1 hw;have Kp2:=k0 Kp1 hw;have Kr2:=k0 Kr1 hw;have HP2:=zh hp;have HB2:=b0 HB1 hw;clear pq0 pqf pql Kany1 Kp1 Kr1 HP1 HB1 hw hb hx hp;have Nn2:=nN w2 (E.tok i);clear hq;have pq0:=Kp2.out.cell 0;simp at pq0;have pqf:=Kp2.out.frozen;have pql:=Kp2.out.lt;go_wp2_with fail;by_cases hq:oneOf (E.tok (i+1)) [⟨#[46,46,46]⟩]=true
    ·
     replace hr:=take_bind1 hr hq;(try dsimp only at hr);(try rw [if_pos rfl] at hr);refine (take_yes (l:=[⟨#[46,46,46]⟩]) HE.out ((HP2.out.alloc _).alloc _) (strs_new (n:=w2.heap.size+1) [⟨#[46,46,46]⟩] (by simp) (by simp)) (old_new (by simp)) hq).mono ?_;rintro e w3 ⟨rfl,hp,hb⟩;have hx:=xm hb;have hz3:=hx.size;(try simp at hz3);have hw:But (Xs E []) w2 w3:=((zb.alloc _).alloc _).trans hx xg;have Kany3:=k0 Kany2 hw;have Kp3:=k0 Kp2 hw;have Kr3:=k0 Kr2 hw;have Kn3:Hid (Blk w3 w2.heap.size 25 #[.int .i64 40,.int .i64 (E.tok i).fr,.int .i64 (E.tok i).to,.string (E.tok i).tx,.slice none 0 0]):=zh (((Blk.new' (by simp)).alloc _).but hx (ng (by omega)));have Nn3:=n0 Nn2 hw;have HP3:=zh hp;have HB3:=b0 HB2 hw;clear pq0 pqf pql Kany2 Kp2 Kr2 Nn2 HP2 HB2 hw hb hx hp;have anyq0:=Kany3.out.cell 0;simp at anyq0;have anyqf:=Kany3.out.frozen;have anyql:=Kany3.out.lt;have pq0:=Kp3.out.cell 0;simp at pq0;have pqf:=Kp3.out.frozen;have pql:=Kp3.out.lt;go_wp2_with fail;obtain ⟨rx,h1,hr⟩:=bind_cases hr;refine (HO.out.typ h1 (HP3.out.far1 (by omega) (by omega) _)).mono ?_;rintro e w4 hp;rcases rx with p | ⟨x4,i4,b4⟩
     ·
      obtain ⟨hb,rfl⟩:=hp;(try dsimp only at hr);subst hr;(try go_wp2_with fail);exact ⟨rfl,(HB3.out.set1 (.inr (.inr (.inl rfl))) _).trans hb mg,rfl⟩
     (try dsimp only at hr);obtain ⟨hi4,-,hbb⟩:=(HF.out.typ _ _ (by omega) HP3.out.ilt).2 _ _ h1;dsimp only at hi4 hbb;subst b4;obtain ⟨hb,hp,v,rfl,A4,c4,rfl,hrow⟩:=hp;(try dsimp only at hp hrow);have hz4:=hb.size;(try simp at hz4);have hw:But (Xs E [cb]) w3 w4:=(zb.set1 (.inr (.inr (by simp))) _).trans hb xg;have Kany4:Hid (Blk w4 cb 4 #[.bool true]):=zh ((Kany3.out.put1 _).but hb (ng (by omega)));have Kp4:=k1 Kp3 hw;have Kr4:=k1 Kr3 hw;have Kn4:=k1 Kn3 hw;have Nn4:=n1 Nn3 hw;have HP4:=zh hp;have HB4:=YtfmgdmeopakdaaaGreatDoor.b2 HB3 hw (by simp <;> omega);clear anyq0 anyqf anyql pq0 pqf pql Kany3 Kp3 Kr3 Kn3 Nn3 HP3 HB3 hw;have Nt4:=zn (lo:=w3.heap.size) hrow;clear hrow hb hp h1;have pq0:=Kp4.out.cell 0;simp at pq0;have pqf:=Kp4.out.frozen;have pql:=Kp4.out.lt;obtain ⟨nq0,nq1,nq2,nq3,nq4,nqf,nql⟩:=Kn4.out.cells5;go_wp2_with fail;refine (made_calls HE.out ((HP4.out.alloc _).alloc _) (by omega)).mono ?_;rintro e w5 ⟨rfl,hb⟩;have hx:=kxb (E:=E) hb;have hz5:=hx.size;(try simp at hz5);have hw:But (Xs E []) w4 w5:=((zb.alloc _).alloc _).trans hx xg;have Kany5:=k0 Kany4 hw;have Kp5:=k0 Kp4 hw;have Kr5:=k0 Kr4 hw;have Kn5:=k0 Kn4 hw;have Kt5:Hid (Blk w5 w4.heap.size 25 #[.int .i64 x4.k,.int .i64 x4.fr,.int .i64 x4.to,.string x4.tx,.slice A4 x4.ks.length c4]):=zh (((Blk.new' (by simp)).alloc _).but hx (ng (by omega)));have Kks5:Hid (Blk w5 (w4.heap.size+1) 25 #[.int .i64 40,.int .i64 (E.tok i).fr,.int .i64 (E.tok i).to,.string (E.tok i).tx,.slice none 0 0,.int .i64 x4.k,.int .i64 x4.fr,.int .i64 x4.to,.string x4.tx,.slice A4 x4.ks.length c4]):=zh ((Blk.new' (by simp)).but hx (ng (by omega)));have Nn5:=n0 Nn4 hw;have Nt5:=n0 Nt4 hw;have HP5:=zh (((HP4.out.alloc _).alloc _).below hb);have HB5:=b0 HB4 hw;clear pq0 pqf pql nq0 nq1 nq2 nq3 nq4 nqf nql Kany4 Kp4 Kr4 Kn4 Nn4 Nt4 HP4 HB4 hw hb hx
     obtain ⟨rq0,rq1,rq2,rq3,rq4,rqf,rql⟩:=Kr5.out.cells5;go_wp2_with fail;replace hr:=made_bind hr;(try dsimp only at hr);obtain rfl:=pure_end hr;exact node_ret (r:=w.heap.size) Tryz.results135 (by rfl) (Kr5.out.put5 _ _ _ _ _) (by rfl) ⟨(HB5.out.set5 (.inl (by omega)) _ _ _ _ _),(HP5.out.far5 (by omega) (by omega) _ _ _ _ _),_,rfl,⟨⟨_,_,rfl,rowN_blk (n:=2) (Kks5.out.far5 (by omega) _ _ _ _ _) (NosR.cons_ (nk Nn5 (zr.set5 (iv (by omega)) _ _ _ _ _) (by omega) (by first|omega|simp<;>omega)) (NosR.one (nk Nt5 (zr.set5 (iv (by omega)) _ _ _ _ _) (by omega) (by first|omega|simp<;>omega)))) rfl (by decide) (⟨by omega,by simp <;> omega⟩)⟩,(Kany5.out.far5 (by omega) _ _ _ _ _),(Kp5.out.far5 (by omega) _ _ _ _ _)⟩⟩
    ·
     replace hq:=Bool.eq_false_iff.2 hq;replace hr:=take_bind0 hr hq;(try dsimp only at hr);(try rw [if_neg Bool.false_ne_true] at hr);refine (take_no (l:=[⟨#[46,46,46]⟩]) HE.out ((HP2.out.alloc _).alloc _) (strs_new (n:=w2.heap.size+1) [⟨#[46,46,46]⟩] (by simp) (by simp)) (old_new (by simp)) hq).mono ?_;rintro e w3 ⟨rfl,hb⟩;have hx:=kxb (E:=E) hb;have hz3:=hx.size;(try simp at hz3);have hw:But (Xs E []) w2 w3:=((zb.alloc _).alloc _).trans hx xg;have Kany3:=k0 Kany2 hw;have Kp3:=k0 Kp2 hw;have Kr3:=k0 Kr2 hw;have Kn3:Hid (Blk w3 w2.heap.size 25 #[.int .i64 40,.int .i64 (E.tok i).fr,.int .i64 (E.tok i).to,.string (E.tok i).tx,.slice none 0 0]):=zh (((Blk.new' (by simp)).alloc _).but hx (ng (by omega)));have Nn3:=n0 Nn2 hw;have HP3:=zh (((HP2.out.alloc _).alloc _).below hb);have HB3:=b0 HB2 hw;clear pq0 pqf pql Kany2 Kp2 Kr2 Nn2 HP2 HB2 hw hb hx;have anyq0:=Kany3.out.cell 0;simp at anyq0;have anyqf:=Kany3.out.frozen;have anyql:=Kany3.out.lt;have pq0:=Kp3.out.cell 0;simp at pq0;have pqf:=Kp3.out.frozen;have pql:=Kp3.out.lt;go_wp2_with fail;obtain ⟨rx,h1,hr⟩:=bind_cases hr;refine (HO.out.typ h1 (HP3.out.far1 (by omega) (by omega) _)).mono ?_;rintro e w4 hp;rcases rx with p | ⟨x4,i4,b4⟩
     ·
      obtain ⟨hb,rfl⟩:=hp;(try dsimp only at hr);subst hr;(try go_wp2_with fail);exact ⟨rfl,(HB3.out.set1 (.inr (.inr (.inl rfl))) _).trans hb mg,rfl⟩
     (try dsimp only at hr);obtain ⟨hi4,-,hbb⟩:=(HF.out.typ _ _ (by omega) HP3.out.ilt).2 _ _ h1;dsimp only at hi4 hbb;subst b4;obtain ⟨hb,hp,v,rfl,A4,c4,rfl,hrow⟩:=hp;(try dsimp only at hp hrow);have hz4:=hb.size;(try simp at hz4);have hw:But (Xs E [cb]) w3 w4:=(zb.set1 (.inr (.inr (by simp))) _).trans hb xg;have Kany4:Hid (Blk w4 cb 4 #[.bool false]):=zh ((Kany3.out.put1 _).but hb (ng (by omega)));have Kp4:=k1 Kp3 hw;have Kr4:=k1 Kr3 hw;have Kn4:=k1 Kn3 hw;have Nn4:=n1 Nn3 hw;have HP4:=zh hp;have HB4:=YtfmgdmeopakdaaaGreatDoor.b2 HB3 hw (by simp <;> omega);clear anyq0 anyqf anyql pq0 pqf pql Kany3 Kp3 Kr3 Kn3 Nn3 HP3 HB3 hw;have Nt4:=zn (lo:=w3.heap.size) hrow;clear hrow hb hp h1;have pq0:=Kp4.out.cell 0;simp at pq0;have pqf:=Kp4.out.frozen;have pql:=Kp4.out.lt;obtain ⟨nq0,nq1,nq2,nq3,nq4,nqf,nql⟩:=Kn4.out.cells5;go_wp2_with fail;refine (made_calls HE.out ((HP4.out.alloc _).alloc _) (by omega)).mono ?_;rintro e w5 ⟨rfl,hb⟩;have hx:=kxb (E:=E) hb;have hz5:=hx.size;(try simp at hz5);have hw:But (Xs E []) w4 w5:=((zb.alloc _).alloc _).trans hx xg;have Kany5:=k0 Kany4 hw;have Kp5:=k0 Kp4 hw;have Kr5:=k0 Kr4 hw;have Kn5:=k0 Kn4 hw;have Kt5:Hid (Blk w5 w4.heap.size 25 #[.int .i64 x4.k,.int .i64 x4.fr,.int .i64 x4.to,.string x4.tx,.slice A4 x4.ks.length c4]):=zh (((Blk.new' (by simp)).alloc _).but hx (ng (by omega)));have Kks5:Hid (Blk w5 (w4.heap.size+1) 25 #[.int .i64 40,.int .i64 (E.tok i).fr,.int .i64 (E.tok i).to,.string (E.tok i).tx,.slice none 0 0,.int .i64 x4.k,.int .i64 x4.fr,.int .i64 x4.to,.string x4.tx,.slice A4 x4.ks.length c4]):=zh ((Blk.new' (by simp)).but hx (ng (by omega)));have Nn5:=n0 Nn4 hw;have Nt5:=n0 Nt4 hw;have HP5:=zh (((HP4.out.alloc _).alloc _).below hb);have HB5:=b0 HB4 hw;clear pq0 pqf pql nq0 nq1 nq2 nq3 nq4 nqf nql Kany4 Kp4 Kr4 Kn4 Nn4 Nt4 HP4 HB4 hw hb hx
     obtain ⟨rq0,rq1,rq2,rq3,rq4,rqf,rql⟩:=Kr5.out.cells5;go_wp2_with fail;replace hr:=made_bind hr;(try dsimp only at hr);obtain rfl:=pure_end hr;exact node_ret (r:=w.heap.size) Tryz.results135 (by rfl) (Kr5.out.put5 _ _ _ _ _) (by rfl) ⟨(HB5.out.set5 (.inl (by omega)) _ _ _ _ _),(HP5.out.far5 (by omega) (by omega) _ _ _ _ _),_,rfl,⟨⟨_,_,rfl,rowN_blk (n:=2) (Kks5.out.far5 (by omega) _ _ _ _ _) (NosR.cons_ (nk Nn5 (zr.set5 (iv (by omega)) _ _ _ _ _) (by omega) (by first|omega|simp<;>omega)) (NosR.one (nk Nt5 (zr.set5 (iv (by omega)) _ _ _ _ _) (by omega) (by first|omega|simp<;>omega)))) rfl (by decide) (⟨by omega,by simp <;> omega⟩)⟩,(Kany5.out.far5 (by omega) _ _ _ _ _),(Kp5.out.far5 (by omega) _ _ _ _ _)⟩⟩
theorem enters_param (args:Array Value) (w:World):(callFunc 135 args).run Tryz.prog w = .ok (.enter 135 args) w:=by kernel_rfl
theorem paramOne_one (hE:EOk E) (hF:GF E.ts G lo) (hO:OkG E G) {cb pb:Nat} (hcg:cb≠E.g) (hpg:pb≠E.g) (hca:cb≠E.a) (hpa:pb≠E.a) (hcp:cb≠pb) :
    One E (fun k=>k=cb∨k=pb) (fun any_ w=>Blk w cb 4 #[.bool any_]∧Blk w pb 49 #[(.pointer (some ⟨E.g,0,none⟩))]) (paramOne E.ts G) 135 #[.pointer (some ⟨cb,0,none⟩),.pointer (some ⟨pb,0,none⟩)] (lo+1) where
  call _ _ _ _ _ hlo hps hI hr:=paramOne_calls hE hF hO hcg hpg hca hpa hcp hr hps hlo hI.1 hI.2
  fine u _ _ hlo hi:=paramOne_fin hE.wt hF hlo hi u
  same _ _ _ h k:=⟨(k cb (.inl rfl)).trans h.1,(k pb (.inr rfl)).trans h.2⟩
  notg e:=by rcases e with e | e;exact hcg e.symm;exact hpg e.symm
  ent w:=enters_param _ w
theorem params_calls (hE:EOk E) (hF:GF E.ts G lo) (hO:OkG E G) (hlo:lo≤i) {r:Except Int (No×Ps)} (hr:paramsP E.ts G (i,b)=some r) (h:PS E w i b):Calls Tryz.prog 97 #[(.pointer (some ⟨E.g,0,none⟩))] w (Post E noX w (NoV w) r):=by
  have hga:=h.glt;have haa:=h.lt;have hln:=hE.len;have hil:=h.ilt;have HP:=zh h;have HE:=zh hE;have HB0:Hid (But (fun k=>gX E k) w w):=zh zb;have HF:=zh hF;have HO:=zh hO;clear hF hO;clear h hE;have hf0:=tfield0;have hf1:=tfield1;have hf2:=tfield2;have hf3:=tfield3;go_enter Tryz.func97,Tryz.ntmps97;unfold paramsP at hr;go_wp2_with fail;by_cases hq:oneOf (E.tok i) [⟨#[40]⟩]=true
  case neg=>
   replace hq:=Bool.eq_false_iff.2 hq;replace hr:=need_bind0 hr hq;subst hr;refine (need_no (x:=⟨#[40]⟩) HE.out ((HP.out.alloc _).alloc _) hq).mono ?_;rintro e wz ⟨rfl,hb⟩;go_wp2_with fail;exact ⟨rfl,((HB0.out.alloc _).alloc _).then_ hb,rfl⟩
  case pos=>
   replace hr:=need_bind1 hr hq;(try dsimp only at hr);refine (need_yes (x:=⟨#[40]⟩) HE.out ((HP.out.alloc _).alloc _) hq).mono ?_;rintro e w1 ⟨rfl,hp,hb⟩;simp only [tokV];have hx:=xm hb;have hz1:=hx.size;(try simp at hz1);have hw:But (Xs E []) w w1:=((zb.alloc _).alloc _).trans hx xg;have Kp1:Hid (Blk w1 w.heap.size 49 #[(.pointer (some ⟨E.g,0,none⟩))]):=zh (((Blk.new' (by simp)).alloc _).but hx (ng (by omega)));have Kr1:Hid (Blk w1 (w.heap.size+1) 25 #[.int .i64 0,.int .i64 0,.int .i64 0,.string ⟨#[]⟩,.slice none 0 0]):=zh ((Blk.new' (by simp)).but hx (ng (by omega)));have HP1:=zh hp;have HB1:=b0 HB0 hw;clear hw hb hx hp hq;have pq0:=Kp1.out.cell 0;simp at pq0;have pqf:=Kp1.out.frozen;have pql:=Kp1.out.lt;go_wp2_with fail;obtain ⟨rx,h1,hr⟩:=bind_cases hr;refine (list_calls (X:=fun k=>k=w1.heap.size∨k=w.heap.size) (I:=fun any_ w'=>Blk w' w1.heap.size 4 #[.bool any_]∧Blk w' w.heap.size 49 #[(.pointer (some ⟨E.g,0,none⟩))]) (lo:=lo+1) HE.out (paramOne_one HE.out HF.out HO.out (by omega) (by omega) (by omega) (by omega) (by omega)) rfl h1 (HP1.out.alloc _) ⟨(Blk.new' (by simp)),(Kp1.out.alloc _)⟩ (by omega) (by omega) (fun k hk=>by rcases hk with e | e <;> (simp;omega))).mono ?_;rintro e w2 hp;rcases rx with p | ⟨⟨l2,u2⟩,i2,b2⟩
   ·
    obtain ⟨hb,rfl⟩:=hp;(try dsimp only at hr);subst hr;(try go_wp2_with fail);exact ⟨rfl,(HB1.out.alloc _).trans hb (fun k hk h=>by rcases h with h | h | h;exact .inl h;all_goals first | exact h.elim | exact .inr h | exact .inr (.inl h) | (exfalso;omega)),rfl⟩
   (try dsimp only at hr);obtain ⟨hi2,-,hbb⟩:=(fin_list HE.out.wt (lo+1) (fun u j hj h=>paramOne_fin HE.out.wt HF.out hj h u) _ _ _ _ (by omega) HP1.out.ilt (by omega)).2 _ _ h1;dsimp only at hi2 hbb;subst b2;obtain ⟨hb,hp,v,rfl,⟨A2,c2,rfl,hrow⟩,hI⟩:=hp;(try dsimp only at hp hrow hI);have hz2:=hb.size;(try simp at hz2);have hw:But (Xs E [w1.heap.size,w.heap.size]) w1 w2:=(zb.alloc _).trans hb (fun k _ h=>by rcases h with h | h | h <;> simp [Xs,h]);have Kr2:=k2 Kr1 hw (by omega) (by simp <;> omega);have HP2:=zh hp;have HB2:=YtfmgdmeopakdaaaGreatDoor.b2 HB1 hw (by simp <;> omega);clear pq0 pqf pql Kp1 Kr1 HP1 HB1 hw;have Nl2:=zm (lo:=(w1.heap.size+1)) hrow;clear hrow hb hp h1;have Kp2:Hid (Blk w2 w.heap.size 49 #[(.pointer (some ⟨E.g,0,none⟩))]):=zh (hI.2);clear hI;have pq0:=Kp2.out.cell 0;simp at pq0;have pqf:=Kp2.out.frozen;have pql:=Kp2.out.lt;go_wp2_with fail;by_cases hq:oneOf (E.tok i2) [⟨#[41]⟩]=true
   case neg=>
    replace hq:=Bool.eq_false_iff.2 hq;replace hr:=need_bind0 hr hq;subst hr;refine (need_no (x:=⟨#[41]⟩) HE.out HP2.out hq).mono ?_;rintro e wz ⟨rfl,hb⟩;go_wp2_with fail;exact ⟨rfl,HB2.out.then_ hb,rfl⟩
   case pos=>
    replace hr:=need_bind1 hr hq;(try dsimp only at hr);refine (need_yes (x:=⟨#[41]⟩) HE.out HP2.out hq).mono ?_;rintro e w3 ⟨rfl,hp,hb⟩;simp only [tokV];have hx:=xm hb;have hz3:=hx.size;(try simp at hz3);have hw:=xs0 hx;have Kr3:=k0 Kr2 hw;have Kp3:=k0 Kp2 hw;have Nl3:=r0 Nl2 hw;have HP3:=zh hp;have HB3:=b0 HB2 hw;clear pq0 pqf pql Kr2 Kp2 Nl2 HP2 HB2 hw hb hx hp hq;have pq0:=Kp3.out.cell 0;simp at pq0;have pqf:=Kp3.out.frozen;have pql:=Kp3.out.lt;go_wp2_with fail;refine (made_calls HE.out HP3.out (by omega)).mono ?_;rintro e w4 ⟨rfl,hb⟩;have hx:=kxb (E:=E) hb;have hz4:=hx.size;(try simp at hz4);have hw:=xs0 hx;have Kr4:=k0 Kr3 hw;have Kp4:=k0 Kp3 hw;have Nl4:=r0 Nl3 hw;have HP4:=zh (HP3.out.below hb);have HB4:=b0 HB3 hw;clear pq0 pqf pql Kr3 Kp3 Nl3 HP3 HB3 hw hb hx;obtain ⟨rq0,rq1,rq2,rq3,rq4,rqf,rql⟩:=Kr4.out.cells5;go_wp2_with fail;obtain rfl:=made_end hr;exact node_ret (r:=w.heap.size+1) Tryz.results97 (by rfl) (Kr4.out.put5 _ _ _ _ _) (by rfl) ⟨(HB4.out.set5 (.inl (by omega)) _ _ _ _ _),(HP4.out.far5 (by omega) (by omega) _ _ _ _ _),_,rfl,_,_,rfl,(rk Nl4 (zr.set5 (iv (by omega)) _ _ _ _ _) (by omega) (by first|omega|simp<;>omega))⟩
theorem enters_typ (args:Array Value) (w:World):(callFunc 79 args).run Tryz.prog w = .ok (.enter 79 args) w:=by kernel_rfl
theorem plain_cases {x:PM No} {u:Unit} {s:Ps} {r:Except Int ((No×Unit)×Ps)} (h:plain x u s=some r):∃ rx,x s=some rx∧r=match rx with
    | .error p=>.error p
    | .ok (a,s')=>.ok ((a,u),s'):=by
  obtain ⟨rx,h1,h2⟩:=bind_cases h;refine ⟨rx,h1,?_⟩;cases rx with
  | error p=>exact h2
  | ok aa=>exact (Option.some.inj h2).symm
theorem plain_post {E:Env} {w:World} {x:PM No} {u:Unit} {i:Nat} {b:Bool} {f:Nat} {args:Array Value} (hx:∀ r,x (i,b)=some r→Calls Tryz.prog f args w (Post E noX w (NoV w) r)) {r:Except Int ((No×Unit)×Ps)} (hr:plain x u (i,b)=some r) :
    Calls Tryz.prog f args w (Post E noX w (fun w' y v=>NoV w w' y.1 v∧True) r):=by
  obtain ⟨rx,h1,rfl⟩:=plain_cases hr;refine (hx rx h1).mono fun e w' h=>?_;cases rx with
  | error p=>exact h
  | ok aa=>
    obtain ⟨hb,hp,v,e1,hv⟩:=h;exact ⟨hb,hp,v,e1,hv,trivial⟩
theorem typ_one (hF:GF E.ts G lo) (hO:OkG E G):One E noX (fun (_:Unit) _=>True) (plain G.typ) 79 #[(.pointer (some ⟨E.g,0,none⟩))] (lo+1) where
  call _ _ _ _ _ _ hps _ hr:=plain_post (fun _ h=>hO.typ h hps) hr
  fine _ _ _ hlo hi:=plain_fin (hF.typ _ _ (by omega) hi)
  same _ _ _ _ _:=trivial
  notg e:=e.elim
  ent w:=enters_typ _ w
theorem results_calls (hE:EOk E) (hF:GF E.ts G lo) (hO:OkG E G) (hlo:lo<i) {r:Except Int (No×Ps)} (hr:resultsP E.ts G (i,b)=some r) (h:PS E w i b):Calls Tryz.prog 98 #[(.pointer (some ⟨E.g,0,none⟩))] w (Post E noX w (NoV w) r):=by
  have hga:=h.glt;have haa:=h.lt;have hln:=hE.len;have hil:=h.ilt;have HP:=zh h;have HE:=zh hE;have HB0:Hid (But (fun k=>gX E k) w w):=zh zb;have HF:=zh hF;have HO:=zh hO;clear hF hO;clear h hE;have hf0:=tfield0;have hf1:=tfield1;have hf2:=tfield2;have hf3:=tfield3;go_enter Tryz.func98,Tryz.ntmps98;unfold resultsP at hr;go_wp2_with fail;replace hr:=is_bind hr;(try dsimp only at hr);refine (is_calls (l:=[⟨#[40]⟩]) HE.out ((HP.out.alloc _).alloc _) (strs_new (n:=w.heap.size+1) [⟨#[40]⟩] (by simp) (by simp)) (old_new (by simp))).mono ?_;rintro e w1 ⟨rfl,hb⟩;have hx:=kxb (E:=E) hb;have hz1:=hx.size;(try simp at hz1);have hw:But (Xs E []) w w1:=((zb.alloc _).alloc _).trans hx xg;have Kr1:Hid (Blk w1 w.heap.size 25 #[.int .i64 0,.int .i64 0,.int .i64 0,.string ⟨#[]⟩,.slice none 0 0]):=zh (((Blk.new' (by simp)).alloc _).but hx (ng (by omega)));have HP1:=zh (((HP.out.alloc _).alloc _).below hb);have HB1:=b0 HB0 hw;clear hw hb hx;by_cases hq:oneOf (E.tok i) [⟨#[40]⟩]=true
  ·
   rw [hq];(try rw [if_pos hq] at hr);go_wp2_with fail;have hnx:i+1<E.ts.length:=HE.out.wt.nxt _ HP1.out.ilt (one_n7 hq);replace hr:=next_bind hr;(try dsimp only at hr);refine (next_calls HE.out HP1.out hnx).mono ?_;rintro e w2 ⟨rfl,hp,hb⟩;simp only [tokV];have hx:=xm hb;have hz2:=hx.size;(try simp at hz2);have hw:=xs0 hx;have Kr2:=k0 Kr1 hw;have HP2:=zh hp;have HB2:=b0 HB1 hw;clear Kr1 HP1 HB1 hw hb hx hp hnx hq;go_wp2_with fail;obtain ⟨rx,h1,hr⟩:=bind_cases hr;refine (list_calls (X:=noX) (lo:=lo+1) HE.out (typ_one HF.out HO.out) rfl h1 HP2.out trivial (by omega) (by omega) (fun k hk=>hk.elim)).mono ?_;rintro e w3 hp;rcases rx with p | ⟨⟨l3,u3⟩,i3,b3⟩
   ·
    obtain ⟨hb,rfl⟩:=hp;(try dsimp only at hr);subst hr;(try go_wp2_with fail);exact ⟨rfl,HB2.out.trans hb mg,rfl⟩
   (try dsimp only at hr);obtain ⟨hi3,-,hbb⟩:=(fin_list HE.out.wt (lo+1) (fun u j hj h=>plain_fin (HF.out.typ _ _ (by omega) h)) _ _ _ _ (by omega) HP2.out.ilt (by omega)).2 _ _ h1;dsimp only at hi3 hbb;subst b3;obtain ⟨hb,hp,v,rfl,⟨A3,c3,rfl,hrow⟩,hI⟩:=hp;(try dsimp only at hp hrow hI);have hz3:=hb.size;(try simp at hz3);have hw:=xs0 hb;have Kr3:=k0 Kr2 hw;have HP3:=zh hp;have HB3:=b0 HB2 hw;clear Kr2 HP2 HB2 hw;have Nl3:=zm (lo:=w2.heap.size) hrow;clear hrow hb hp h1 hI;go_wp2_with fail;by_cases hq:oneOf (E.tok i3) [⟨#[41]⟩]=true
   case neg=>
    replace hq:=Bool.eq_false_iff.2 hq;replace hr:=need_bind0 hr hq;subst hr;refine (need_no (x:=⟨#[41]⟩) HE.out HP3.out hq).mono ?_;rintro e wz ⟨rfl,hb⟩;go_wp2_with fail;exact ⟨rfl,HB3.out.then_ hb,rfl⟩
   case pos=>
    replace hr:=need_bind1 hr hq;(try dsimp only at hr);refine (need_yes (x:=⟨#[41]⟩) HE.out HP3.out hq).mono ?_;rintro e w4 ⟨rfl,hp,hb⟩;simp only [tokV];have hx:=xm hb;have hz4:=hx.size;(try simp at hz4);have hw:=xs0 hx;have Kr4:=k0 Kr3 hw;have Nl4:=r0 Nl3 hw;have HP4:=zh hp;have HB4:=b0 HB3 hw;clear Kr3 Nl3 HP3 HB3 hw hb hx hp hq;go_wp2_with fail;refine (made_calls HE.out HP4.out (by omega)).mono ?_;rintro e w5 ⟨rfl,hb⟩;have hx:=kxb (E:=E) hb;have hz5:=hx.size;(try simp at hz5);have hw:=xs0 hx;have Kr5:=k0 Kr4 hw;have Nl5:=r0 Nl4 hw;have HP5:=zh (HP4.out.below hb);have HB5:=b0 HB4 hw;clear Kr4 Nl4 HP4 HB4 hw hb hx;obtain ⟨rq0,rq1,rq2,rq3,rq4,rqf,rql⟩:=Kr5.out.cells5;go_wp2_with fail;obtain rfl:=made_end hr;exact node_ret (r:=w.heap.size) Tryz.results98 (by rfl) (Kr5.out.put5 _ _ _ _ _) (by rfl) ⟨(HB5.out.set5 (.inl (by omega)) _ _ _ _ _),(HP5.out.far5 (by omega) (by omega) _ _ _ _ _),_,rfl,_,_,rfl,(rk Nl5 (zr.set5 (iv (by omega)) _ _ _ _ _) (by omega) (by first|omega|simp<;>omega))⟩
  ·
   replace hq:=Bool.eq_false_iff.2 hq;rw [hq];(try rw [if_neg (Bool.eq_false_iff.1 hq)] at hr);replace hr:=now_bind hr;(try dsimp only at hr);go_wp2_with fail;refine (typed_calls HE.out HP1.out).mono ?_;rintro e w2 ⟨rfl,hb⟩;have hx:=kxb (E:=E) hb;have hz2:=hx.size;(try simp at hz2);have hw:=xs0 hx;have Kr2:=k0 Kr1 hw;have HP2:=zh (HP1.out.below hb);have HB2:=b0 HB1 hw;clear Kr1 HP1 HB1 hw hb hx;by_cases hq:typedT (E.tok i)=true
   ·
    rw [hq];(try rw [if_pos hq] at hr);clear hq;go_wp2_with fail;refine (from_calls HE.out HP2.out).mono ?_;rintro e w3 ⟨rfl,hb⟩;have hx:=kxb (E:=E) hb;have hz3:=hx.size;(try simp at hz3);have hw:=xs0 hx;have Kr3:=k0 Kr2 hw;have HP3:=zh (HP2.out.below hb);have HB3:=b0 HB2 hw;clear Kr2 HP2 HB2 hw hb hx;go_wp2_with fail;obtain ⟨rx,h1,hr⟩:=bind_cases hr;refine (HO.out.typ h1 HP3.out).mono ?_;rintro e w4 hp;rcases rx with p | ⟨x4,i4,b4⟩
    ·
     obtain ⟨hb,rfl⟩:=hp;(try dsimp only at hr);subst hr;(try go_wp2_with fail);exact ⟨rfl,HB3.out.trans hb mg,rfl⟩
    (try dsimp only at hr);obtain ⟨hi4,-,hbb⟩:=(HF.out.typ _ _ (by omega) HP3.out.ilt).2 _ _ h1;dsimp only at hi4 hbb;subst b4;obtain ⟨hb,hp,v,rfl,A4,c4,rfl,hrow⟩:=hp;(try dsimp only at hp hrow);have hz4:=hb.size;(try simp at hz4);have hw:=xs0 hb;have Kr4:=k0 Kr3 hw;have HP4:=zh hp;have HB4:=b0 HB3 hw;clear Kr3 HP3 HB3 hw;have Nt4:=zn (lo:=w3.heap.size) hrow;clear hrow hb hp h1;go_wp2_with fail;refine (made_calls HE.out ((HP4.out.alloc _).alloc _) (by omega)).mono ?_;rintro e w5 ⟨rfl,hb⟩;have hx:=kxb (E:=E) hb;have hz5:=hx.size;(try simp at hz5);have hw:But (Xs E []) w4 w5:=((zb.alloc _).alloc _).trans hx xg;have Kr5:=k0 Kr4 hw;have Kt5:Hid (Blk w5 w4.heap.size 25 #[.int .i64 x4.k,.int .i64 x4.fr,.int .i64 x4.to,.string x4.tx,.slice A4 x4.ks.length c4]):=zh (((Blk.new' (by simp)).alloc _).but hx (ng (by omega)));have Kks5:Hid (Blk w5 (w4.heap.size+1) 25 #[.int .i64 x4.k,.int .i64 x4.fr,.int .i64 x4.to,.string x4.tx,.slice A4 x4.ks.length c4]):=zh ((Blk.new' (by simp)).but hx (ng (by omega)));have Nt5:=n0 Nt4 hw;have HP5:=zh (((HP4.out.alloc _).alloc _).below hb);have HB5:=b0 HB4 hw;clear Kr4 Nt4 HP4 HB4 hw hb hx;obtain ⟨rq0,rq1,rq2,rq3,rq4,rqf,rql⟩:=Kr5.out.cells5;go_wp2_with fail;obtain rfl:=made_end hr;exact node_ret (r:=w.heap.size) Tryz.results98 (by rfl) (Kr5.out.put5 _ _ _ _ _) (by rfl) ⟨(HB5.out.set5 (.inl (by omega)) _ _ _ _ _),(HP5.out.far5 (by omega) (by omega) _ _ _ _ _),_,rfl,_,_,rfl,rowN_blk (n:=1) (Kks5.out.far5 (by omega) _ _ _ _ _) (NosR.one (nk Nt5 (zr.set5 (iv (by omega)) _ _ _ _ _) (by omega) (by first|omega|simp<;>omega))) rfl (by decide) (⟨by omega,by simp <;> omega⟩)⟩
   ·
    replace hq:=Bool.eq_false_iff.2 hq;rw [hq];(try rw [if_neg (Bool.eq_false_iff.1 hq)] at hr);clear hq;go_wp2_with fail;refine (empty_calls HE.out HP2.out).mono ?_;rintro e w3 ⟨rfl,hb⟩;have hx:=kxb (E:=E) hb;have hz3:=hx.size;(try simp at hz3);have hw:=xs0 hx;have Kr3:=k0 Kr2 hw;have HP3:=zh (HP2.out.below hb);have HB3:=b0 HB2 hw;clear Kr2 HP2 HB2 hw hb hx;obtain ⟨rq0,rq1,rq2,rq3,rq4,rqf,rql⟩:=Kr3.out.cells5;go_wp2_with fail;obtain rfl:=empty_end hr;exact node_ret (r:=w.heap.size) Tryz.results98 (by rfl) (Kr3.out.put5 _ _ _ _ _) (by rfl) ⟨(HB3.out.set5 (.inl (by omega)) _ _ _ _ _),(HP3.out.far5 (by omega) (by omega) _ _ _ _ _),_,rfl,_,_,rfl,RowN.nil_⟩
end
set_option maxRecDepth 100000
set_option maxHeartbeats 2000000
section
variable {E:Env} {w:World} {i:Nat} {b:Bool}
theorem RowN.at_ {S:Nat→Prop} {v:Value} {ks:List No} (h:RowN w S v ks) {j:Nat} (hl:j<ks.length) :
    ∃ g o cap A c,v = .slice (some ⟨g,o,none⟩) ks.length cap∧S g∧
      w.cell? ⟨g,o+j * 5,none⟩=some (.int .i64 ks[j].k)∧w.cell? ⟨g,o+j * 5+1,none⟩=some (.int .i64 ks[j].fr)∧w.cell? ⟨g,o+j * 5+2,none⟩=some (.int .i64 ks[j].to)∧w.cell? ⟨g,o+j * 5+3,none⟩=some (.string ks[j].tx)∧w.cell? ⟨g,o+j * 5+4,none⟩=some (.slice A ks[j].ks.length c)∧
      NoR w S ks[j] [.int .i64 ks[j].k,.int .i64 ks[j].fr,.int .i64 ks[j].to,.string ks[j].tx,.slice A ks[j].ks.length c]:=by
  obtain ⟨xs,⟨h1,A,cap,rfl,h2,h3,h0,h4⟩,ht⟩:=h;obtain ⟨g,o,rfl,hb1,hc⟩:=h4 (by omega);have hr:=ht.at_ j hl;obtain ⟨A1,c1,e,_⟩:=hr.forms;rw [e] at hr
  have hx:∀ q u,[Value.int .i64 ks[j].k,.int .i64 ks[j].fr,.int .i64 ks[j].to,.string ks[j].tx,.slice A1 ks[j].ks.length c1][q]? = some u→w.cell? ⟨g,o+j * 5+q,none⟩=some u:=by
    intro q u hj;rw [← e,List.getElem?_take] at hj;split at hj
    · rw [List.getElem?_drop] at hj
      rw [Nat.add_assoc];exact hc _ _ hj
    · cases hj
  exact ⟨g,o,cap,A1,c1,rfl,hb1,hx 0 _ rfl,hx 1 _ rfl,hx 2 _ rfl,hx 3 _ rfl,hx 4 _ rfl,hr⟩
theorem types_calls (hE:EOk E) {σ:Type} {X:Nat→Prop} {I:σ→World→Prop} {one:σ→PM (No×σ)} {n lo:Nat} {first cap args:Array Value} (ho:One E X I one n args lo) (ha:first ++ cap=args)
    {u:σ} {r:Except Int ((No×σ)×Ps)} (hr:typesP E.ts one u (i,b)=some r) (h:PS E w i b) (hu:I u w) (hlo:lo≤i) (hX:∀ k,X k→k<w.heap.size) :
    Calls Tryz.prog 139 #[(.pointer (some ⟨E.g,0,none⟩)),.func (.func n) first cap] w (Post E X w (fun w' x v=>NoV w w' x.1 v∧I x.2 w') r):=by
  have hga:=h.glt;have haa:=h.lt;have hln:=hE.len;have hil:=h.ilt;have HP:=zh h;have HE:=zh hE;have HO:=zh ho;have HA:=zh ha;have HU:=zh hu;have HX:=zh hX;clear h hE ho ha hu hX;unfold typesP at hr;replace hr:=empty_bind hr;(try dsimp only at hr);go_enter Tryz.func139,Tryz.ntmps139;go_wp2_with fail;refine (empty_calls HE.out (HP.out.alloc _)).mono ?_;rintro e w1 ⟨rfl,hb1⟩;have hz1:=hb1.size;simp at hz1;have Kr1:=zh ((Blk.new w _ _).below hb1 (by simp));have HP1:=zh ((HP.out.alloc _).below hb1);have HB1:Hid (Below w.heap.size w w1):=(below_al _ _).trans (hb1.mono (by simp));clear hb1;go_wp2_with fail;obtain ⟨rx,h1,hr⟩:=bind_cases hr;obtain ⟨W,hW⟩:∃ W,W=w1.alloc (.cells #[.int .i64 27,.int .i64 (E.tok i).fr,.int .i64 (E.tok i).fr,.string ⟨#[]⟩,.slice none 0 0] 25):=⟨_,rfl⟩;rw [← hW];(have hzW:w1.heap.size<W.heap.size:=by rw [hW];simp);(have Kn:Hid (Blk W w1.heap.size 25 #[.int .i64 27,.int .i64 (E.tok i).fr,.int .i64 (E.tok i).fr,.string ⟨#[]⟩,.slice none 0 0]):=by rw [hW];exact Blk.new _ _ _);(have hwW:Below w1.heap.size w1 W:=by rw [hW];exact below_al _ _);have HPW:=zh (HP1.out.below hwW);have KrW:=zh (Kr1.out.below hwW (by omega));have HBW:Hid (Below w.heap.size w W):=HB1.out.trans (hwW.mono (by omega));have HUW:=zh (HO.out.same _ _ _ HU.out fun k hk=>HBW.out.block k (HX.out k hk));clear hW hwW HP1 Kr1 HB1;refine (list_calls HE.out HO.out HA.out h1 HPW.out HUW.out hlo (by omega) (fun k hk=>by have:=HX.out k hk;have:=HBW.out.size;omega)).mono ?_;rintro e w2 ⟨hb2,hp2⟩;rcases rx with p | ⟨⟨l,u2⟩,i2,b2⟩
  · dsimp only at hp2 hr
    subst hp2;subst hr;go_wp2_with fail;exact ⟨rfl,(But.of_below HBW.out).trans hb2 (fun _ _ h=>h),rfl⟩
  · obtain ⟨hps,v,rfl,⟨A2,c2,rfl,hrow⟩,hI⟩:=hp2
    dsimp only at hr hps hrow hI;obtain rfl:=pure_end hr;have hz2:=hb2.size
    have hnX:∀ k,w.heap.size≤k→¬ (k=E.g∨X k):=fun k hk e=>by
      rcases e with e | e
      · omega
      · have:=HX.out k e;omega
    have Kn2:=zh (Kn.out.but hb2 (hnX _ (by have:=HBW.out.size;omega)));have Kr2:=zh (KrW.out.but hb2 (hnX _ (Nat.le_refl _)));have HP2:=zh hps;have HI2:=zh hI;have HB2:Hid (But (fun k=>k=E.g∨X k) w w2):=(But.of_below HBW.out).trans hb2 (fun _ _ h=>h);have Nl2:Hid (RowN w2 (Iv W.heap.size w2.heap.size) (.slice A2 l.length c2) l):=zh (hrow.keep zr fun k hk=>hk);obtain ⟨nq0,nq1,nq2,nq3,nq4,nqf,nql⟩:=Kn2.out.cells5;obtain ⟨rq0,rq1,rq2,rq3,rq4,rqf,rql⟩:=Kr2.out.cells5;clear hb2 hrow hI hps h1 hnX hr;(have hne:¬ w1.heap.size=w.heap.size:=by omega);(have hww:w.heap.size<w1.heap.size:=by omega);rcases Nat.eq_zero_or_pos l.length with h0 | h0
    · obtain rfl:=List.eq_nil_of_length_eq_zero h0
      clear h0;go_wp2_with fail;refine node_ret (r:=w.heap.size) Tryz.results139 (by rfl) ((Kr2.out.far1 (by omega) _).put5 _ _ _ _ _) (by rfl) ⟨(HB2.out.set1 (.inl (by omega)) _).set5 (.inl (Nat.le_refl _)) _ _ _ _ _,(HP2.out.far1 (by omega) (by omega) _).far5 (by omega) (by omega) _ _ _ _ _,_,rfl,⟨_,_,rfl,?_⟩,?_⟩
      · exact Nl2.out.keep ((zr.set1 (by intro hk;have:=hk.1;omega) _).set5 (by intro hk;have:=hk.1;omega) _ _ _ _ _) fun k hk=>⟨by have:=hk.1;omega,by have:=hk.2;simp;omega⟩
      · exact HO.out.same _ _ _ HI2.out fun k hk=>by
          have hkw:=HX.out k hk;exact (((But.refl (fun k=>w.heap.size≤k) w2).set1 (r:=w1.heap.size) (o:=4) (.inr (by omega)) _).set5 (r:=w.heap.size) (.inr (Nat.le_refl _)) _ _ _ _ _).block k (by omega) (by omega)
    · obtain ⟨j,hj⟩:∃ j,l.length=j+1:=⟨l.length - 1,by omega⟩
      obtain ⟨g,o,cp,A3,c3,hv,hSg,z0,z1,z2,z3,z4,-⟩:=Nl2.out.at_ (j:=j) (by omega);simp only [Value.slice.injEq] at hv;obtain ⟨rfl,-,rfl⟩:=hv;have hg1:=hSg.1;have hg2:=hSg.2;obtain ⟨x,hx⟩:∃ x,l[j]=x:=⟨_,rfl⟩
      have hlast:(l.getLast?.map No.to).getD (E.tok i).fr=x.to:=by
        rw [List.getLast?_eq_getElem?,hj,Nat.add_sub_cancel,List.getElem?_eq_getElem (by omega),hx];rfl
      rw [hx] at z2;have HJ:=zh hj;have HL:=zh hlast;(have hl1:(l.length:Int) - 1=(j:Int):=by omega);(have hlm:l.length≤9223372036854775807:=by obtain ⟨xs,a,_⟩:=Nl2.out;obtain ⟨_,_,_,h⟩:=a.form;exact h);(have hwr:wrap64 (j:Int)=(j:Int):=by unfold wrap64;omega);clear hlm;(have hjl:j<l.length:=by omega);clear hSg z0 z1 z3 z4 hj hx hlast;(have hgn:¬ w1.heap.size=g:=by omega);(have hgn2:¬ g=w1.heap.size:=by omega);go_wp2_with fail;refine node_ret (r:=w.heap.size) Tryz.results139 (by rfl) (((Kr2.out.far1 (by omega) _).far1 (by omega) _).put5 _ _ _ _ _) (by rfl) ⟨((HB2.out.set1 (.inl (by omega)) _).set1 (.inl (by omega)) _).set5 (.inl (Nat.le_refl _)) _ _ _ _ _,((HP2.out.far1 (by omega) (by omega) _).far1 (by omega) (by omega) _).far5 (by omega) (by omega) _ _ _ _ _,_,rfl,⟨some ⟨g,o,none⟩,c2,?_,?_⟩,?_⟩
      · simp only [typesN,No.k,No.fr,No.to,No.tx,No.ks]
        rw [show ((l.getLast?.map No.to).getD (E.tok i).fr)=x.to from HL.out];rfl
      · exact Nl2.out.keep (((zr.set1 (by intro hk;have:=hk.1;omega) _).set1 (by intro hk;have:=hk.1;omega) _).set5 (by intro hk;have:=hk.1;omega) _ _ _ _ _) fun k hk=>⟨by have:=hk.1;omega,by have:=hk.2;simp;omega⟩
      · exact HO.out.same _ _ _ HI2.out fun k hk=>by
          have hkw:=HX.out k hk;exact ((((But.refl (fun k=>w.heap.size≤k) w2).set1 (r:=w1.heap.size) (o:=4) (.inr (by omega)) _).set1 (r:=w1.heap.size) (o:=2) (.inr (by omega)) _).set5 (r:=w.heap.size) (.inr (Nat.le_refl _)) _ _ _ _ _).block k (by omega) (by omega)
end
set_option maxRecDepth 100000
set_option maxHeartbeats 2000000
section
variable {E:Env} {G:Gr} {lo:Nat} {w:World} {i:Nat} {b:Bool}
theorem funcOne_calls (hE:EOk E) (hF:GF E.ts G lo) (hO:OkG E G) {cb pb:Nat} (hcg:cb≠E.g) (hpg:pb≠E.g) (hca:cb≠E.a) (hpa:pb≠E.a) (hcp:cb≠pb) {any_:Bool} {r:Except Int ((No×Bool)×Ps)} (hr:funcOne E.ts G any_ (i,b)=some r) (h:PS E w i b) (hi:lo<i)
    (hc:Blk w cb 9 #[.string (dotsT any_)]) (hp:Blk w pb 49 #[(.pointer (some ⟨E.g,0,none⟩))]) :
    Calls Tryz.prog 140 #[.pointer (some ⟨cb,0,none⟩),.pointer (some ⟨pb,0,none⟩)] w (Post E (fun k=>k=cb∨k=pb) w (fun w' x v=>NoV w w' x.1 v∧Blk w' cb 9 #[.string (dotsT x.2)]∧Blk w' pb 49 #[(.pointer (some ⟨E.g,0,none⟩))]) r):=by
  have hga:=h.glt;have haa:=h.lt;have hln:=hE.len;have hil:=h.ilt;have hcl:=hc.lt;have hpl:=hp.lt;have HP:=zh h;have HE:=zh hE;have HF:=zh hF;have HO:=zh hO;have Kany0:=zh hc;have Kp0:=zh hp;have HB0:Hid (But (fun k=>k=E.g∨(k=cb∨k=pb)) w w):=zh zb;clear h hE hF hO hc hp;go_enter Tryz.func140,Tryz.ntmps140;unfold funcOne at hr;cases any_
  case true=>
   replace Kany0:Hid (Blk w cb 9 #[.string ⟨#[46,46,46]⟩]):=Kany0;rw [if_pos rfl] at hr;replace hr:=bad_end hr;have anyq0:=Kany0.out.cell 0;simp at anyq0;have anyqf:=Kany0.out.frozen;have anyql:=Kany0.out.lt;have pq0:=Kp0.out.cell 0;simp at pq0;have pqf:=Kp0.out.frozen;have pql:=Kp0.out.lt;go_wp2_with fail;refine (bad_calls HE.out (HP.out.alloc _)).mono ?_;rintro e wz ⟨rfl,hb⟩;subst hr;go_wp2_with fail;exact ⟨rfl,(HB0.out.alloc _).then_ hb,rfl⟩
  case false=>
   replace Kany0:Hid (Blk w cb 9 #[.string ⟨#[]⟩]):=Kany0;rw [if_neg (by decide)] at hr;have anyq0:=Kany0.out.cell 0;simp at anyq0;have anyqf:=Kany0.out.frozen;have anyql:=Kany0.out.lt;have pq0:=Kp0.out.cell 0;simp at pq0;have pqf:=Kp0.out.frozen;have pql:=Kp0.out.lt;go_wp2_with fail;by_cases hq:oneOf (E.tok i) [⟨#[46,46,46]⟩]=true
   ·
    replace hr:=take_bind1 hr hq;(try dsimp only at hr);(try rw [if_pos rfl] at hr);refine (take_yes (l:=[⟨#[46,46,46]⟩]) HE.out ((HP.out.alloc _).alloc _) (strs_new (n:=w.heap.size+1) [⟨#[46,46,46]⟩] (by simp) (by simp)) (old_new (by simp)) hq).mono ?_;rintro e w1 ⟨rfl,hp,hb⟩;have hx:=xm hb;have hz1:=hx.size;(try simp at hz1);have hw:But (Xs E []) w w1:=((zb.alloc _).alloc _).trans hx xg;have Kany1:=k0 Kany0 hw;have Kp1:=k0 Kp0 hw;have Kr1:Hid (Blk w1 w.heap.size 25 #[.int .i64 0,.int .i64 0,.int .i64 0,.string ⟨#[]⟩,.slice none 0 0]):=zh (((Blk.new' (by simp)).alloc _).but hx (ng (by omega)));have HP1:=zh hp;have HB1:=b0 HB0 hw;clear anyq0 anyqf anyql pq0 pqf pql Kany0 Kp0 hw hb hx hp;have anyq0:=Kany1.out.cell 0;simp at anyq0;have anyqf:=Kany1.out.frozen;have anyql:=Kany1.out.lt;have pq0:=Kp1.out.cell 0;simp at pq0;have pqf:=Kp1.out.frozen;have pql:=Kp1.out.lt;go_wp2_with fail;obtain ⟨rx,h1,hr⟩:=bind_cases hr;refine (HO.out.typ h1 (HP1.out.far1 (by omega) (by omega) _)).mono ?_;rintro e w2 hp;rcases rx with p | ⟨x2,i2,b2⟩
    ·
     obtain ⟨hb,rfl⟩:=hp;(try dsimp only at hr);subst hr;(try go_wp2_with fail);exact ⟨rfl,(HB1.out.set1 (.inr (.inr (.inl rfl))) _).trans hb mg,rfl⟩
    (try dsimp only at hr);obtain ⟨hi2,-,hbb⟩:=(HF.out.typ _ _ (by omega) HP1.out.ilt).2 _ _ h1;dsimp only at hi2 hbb;subst b2;obtain ⟨hb,hp,v,rfl,A2,c2,rfl,hrow⟩:=hp;(try dsimp only at hp hrow);have hz2:=hb.size;(try simp at hz2);have hw:But (Xs E [cb]) w1 w2:=(zb.set1 (.inr (.inr (by simp))) _).trans hb xg;have Kany2:Hid (Blk w2 cb 9 #[.string ⟨#[46,46,46]⟩]):=zh ((Kany1.out.put1 _).but hb (ng (by omega)));have Kp2:=k1 Kp1 hw;have Kr2:=k1 Kr1 hw;have HP2:=zh hp;have HB2:=YtfmgdmeopakdaaaGreatDoor.b2 HB1 hw (by simp <;> omega);clear anyq0 anyqf anyql pq0 pqf pql Kany1 Kp1 Kr1 HP1 HB1 hw;have Nt2:=zn (lo:=w1.heap.size) hrow;clear hrow hb hp h1;obtain ⟨rq0,rq1,rq2,rq3,rq4,rqf,rql⟩:=Kr2.out.cells5;go_wp2_with fail;obtain rfl:=pure_end hr;exact node_ret (r:=w.heap.size) Tryz.results140 (by rfl) (Kr2.out.put5 _ _ _ _ _) (by rfl) ⟨(HB2.out.set5 (.inl (by omega)) _ _ _ _ _),(HP2.out.far5 (by omega) (by omega) _ _ _ _ _),_,rfl,⟨⟨_,_,rfl,(nk Nt2 (zr.set5 (iv (by omega)) _ _ _ _ _) (by omega) (by first|omega|simp<;>omega)).row_⟩,(Kany2.out.far5 (by omega) _ _ _ _ _),(Kp2.out.far5 (by omega) _ _ _ _ _)⟩⟩
   ·
    replace hq:=Bool.eq_false_iff.2 hq;replace hr:=take_bind0 hr hq;(try dsimp only at hr);(try rw [if_neg Bool.false_ne_true] at hr);refine (take_no (l:=[⟨#[46,46,46]⟩]) HE.out ((HP.out.alloc _).alloc _) (strs_new (n:=w.heap.size+1) [⟨#[46,46,46]⟩] (by simp) (by simp)) (old_new (by simp)) hq).mono ?_;rintro e w1 ⟨rfl,hb⟩;have hx:=kxb (E:=E) hb;have hz1:=hx.size;(try simp at hz1);have hw:But (Xs E []) w w1:=((zb.alloc _).alloc _).trans hx xg;have Kany1:=k0 Kany0 hw;have Kp1:=k0 Kp0 hw;have Kr1:Hid (Blk w1 w.heap.size 25 #[.int .i64 0,.int .i64 0,.int .i64 0,.string ⟨#[]⟩,.slice none 0 0]):=zh (((Blk.new' (by simp)).alloc _).but hx (ng (by omega)));have HP1:=zh (((HP.out.alloc _).alloc _).below hb);have HB1:=b0 HB0 hw;clear anyq0 anyqf anyql pq0 pqf pql Kany0 Kp0 hw hb hx;have anyq0:=Kany1.out.cell 0;simp at anyq0;have anyqf:=Kany1.out.frozen;have anyql:=Kany1.out.lt;have pq0:=Kp1.out.cell 0;simp at pq0;have pqf:=Kp1.out.frozen;have pql:=Kp1.out.lt;go_wp2_with fail;obtain ⟨rx,h1,hr⟩:=bind_cases hr;refine (HO.out.typ h1 HP1.out).mono ?_;rintro e w2 hp;rcases rx with p | ⟨x2,i2,b2⟩
    ·
     obtain ⟨hb,rfl⟩:=hp;(try dsimp only at hr);subst hr;(try go_wp2_with fail);exact ⟨rfl,HB1.out.trans hb mg,rfl⟩
    (try dsimp only at hr);obtain ⟨hi2,-,hbb⟩:=(HF.out.typ _ _ (by omega) HP1.out.ilt).2 _ _ h1;dsimp only at hi2 hbb;subst b2;obtain ⟨hb,hp,v,rfl,A2,c2,rfl,hrow⟩:=hp;(try dsimp only at hp hrow);have hz2:=hb.size;(try simp at hz2);have hw:=xs0 hb;have Kany2:=k0 Kany1 hw;have Kp2:=k0 Kp1 hw;have Kr2:=k0 Kr1 hw;have HP2:=zh hp;have HB2:=b0 HB1 hw;clear anyq0 anyqf anyql pq0 pqf pql Kany1 Kp1 Kr1 HP1 HB1 hw;have Nt2:=zn (lo:=w1.heap.size) hrow;clear hrow hb hp h1;obtain ⟨rq0,rq1,rq2,rq3,rq4,rqf,rql⟩:=Kr2.out.cells5;go_wp2_with fail;obtain rfl:=pure_end hr;exact node_ret (r:=w.heap.size) Tryz.results140 (by rfl) (Kr2.out.put5 _ _ _ _ _) (by rfl) ⟨(HB2.out.set5 (.inl (by omega)) _ _ _ _ _),(HP2.out.far5 (by omega) (by omega) _ _ _ _ _),_,rfl,⟨⟨_,_,rfl,(nk Nt2 (zr.set5 (iv (by omega)) _ _ _ _ _) (by omega) (by first|omega|simp<;>omega)).row_⟩,(Kany2.out.far5 (by omega) _ _ _ _ _),(Kp2.out.far5 (by omega) _ _ _ _ _)⟩⟩
theorem enters_funcOne (args:Array Value) (w:World):(callFunc 140 args).run Tryz.prog w = .ok (.enter 140 args) w:=by kernel_rfl
theorem funcOne_one (hE:EOk E) (hF:GF E.ts G lo) (hO:OkG E G) {cb pb:Nat} (hcg:cb≠E.g) (hpg:pb≠E.g) (hca:cb≠E.a) (hpa:pb≠E.a) (hcp:cb≠pb) :
    One E (fun k=>k=cb∨k=pb) (fun any_ w=>Blk w cb 9 #[.string (dotsT any_)]∧Blk w pb 49 #[(.pointer (some ⟨E.g,0,none⟩))]) (funcOne E.ts G) 140 #[.pointer (some ⟨cb,0,none⟩),.pointer (some ⟨pb,0,none⟩)] (lo+1) where
  call _ _ _ _ _ hlo hps hI hr:=funcOne_calls hE hF hO hcg hpg hca hpa hcp hr hps hlo hI.1 hI.2
  fine u _ _ hlo hi:=funcOne_fin hE.wt hF hlo hi u
  same _ _ _ h k:=⟨(k cb (.inl rfl)).trans h.1,(k pb (.inr rfl)).trans h.2⟩
  notg e:=by rcases e with e | e;exact hcg e.symm;exact hpg e.symm
  ent w:=enters_funcOne _ w
theorem funcType_calls (hE:EOk E) (hF:GF E.ts G lo) (hO:OkG E G) (hlo:lo≤i) {fr:Int} {r:Except Int (No×Ps)} (hr:funcTypeP E.ts G fr (i,b)=some r) (h:PS E w i b):Calls Tryz.prog 101 #[(.pointer (some ⟨E.g,0,none⟩)),.int .i64 fr] w (Post E noX w (NoV w) r):=by
  have hga:=h.glt;have haa:=h.lt;have hln:=hE.len;have hil:=h.ilt;have HP:=zh h;have HE:=zh hE;have HB0:Hid (But (fun k=>gX E k) w w):=zh zb;have HF:=zh hF;have HO:=zh hO;clear hF hO;clear h hE;have hf0:=tfield0;have hf1:=tfield1;have hf2:=tfield2;have hf3:=tfield3;go_enter Tryz.func101,Tryz.ntmps101;unfold funcTypeP at hr;go_wp2_with fail;by_cases hq:oneOf (E.tok i) [⟨#[40]⟩]=true
  case neg=>
   replace hq:=Bool.eq_false_iff.2 hq;replace hr:=need_bind0 hr hq;subst hr;refine (need_no (x:=⟨#[40]⟩) HE.out ((HP.out.alloc _).alloc _) hq).mono ?_;rintro e wz ⟨rfl,hb⟩;go_wp2_with fail;exact ⟨rfl,((HB0.out.alloc _).alloc _).then_ hb,rfl⟩
  case pos=>
   replace hr:=need_bind1 hr hq;(try dsimp only at hr);refine (need_yes (x:=⟨#[40]⟩) HE.out ((HP.out.alloc _).alloc _) hq).mono ?_;rintro e w1 ⟨rfl,hp,hb⟩;simp only [tokV];have hx:=xm hb;have hz1:=hx.size;(try simp at hz1);have hw:But (Xs E []) w w1:=((zb.alloc _).alloc _).trans hx xg;have Kp1:Hid (Blk w1 w.heap.size 49 #[(.pointer (some ⟨E.g,0,none⟩))]):=zh (((Blk.new' (by simp)).alloc _).but hx (ng (by omega)));have Kr1:Hid (Blk w1 (w.heap.size+1) 25 #[.int .i64 0,.int .i64 0,.int .i64 0,.string ⟨#[]⟩,.slice none 0 0]):=zh ((Blk.new' (by simp)).but hx (ng (by omega)));have HP1:=zh hp;have HB1:=b0 HB0 hw;clear hw hb hx hp hq;have pq0:=Kp1.out.cell 0;simp at pq0;have pqf:=Kp1.out.frozen;have pql:=Kp1.out.lt;go_wp2_with fail;obtain ⟨rx,h1,hr⟩:=bind_cases hr;refine (types_calls (X:=fun k=>k=w1.heap.size∨k=w.heap.size) (I:=fun any_ w'=>Blk w' w1.heap.size 9 #[.string (dotsT any_)]∧Blk w' w.heap.size 49 #[(.pointer (some ⟨E.g,0,none⟩))]) (lo:=lo+1) HE.out (funcOne_one HE.out HF.out HO.out (by omega) (by omega) (by omega) (by omega) (by omega)) rfl h1 (HP1.out.alloc _) ⟨(Blk.new' (by simp)),(Kp1.out.alloc _)⟩ (by omega) (fun k hk=>by rcases hk with e | e <;> (simp;omega))).mono ?_;rintro e w2 hp;rcases rx with p | ⟨⟨x2,u2⟩,i2,b2⟩
   ·
    obtain ⟨hb,rfl⟩:=hp;(try dsimp only at hr);subst hr;(try go_wp2_with fail);exact ⟨rfl,(HB1.out.alloc _).trans hb (fun k hk h=>by rcases h with h | h | h;exact .inl h;all_goals first | exact h.elim | exact .inr h | exact .inr (.inl h) | (exfalso;omega)),rfl⟩
   (try dsimp only at hr);obtain ⟨hi2,-,hbb⟩:=(types_fin HE.out.wt (fun u j hj h=>funcOne_fin HE.out.wt HF.out (by omega) h u) HP1.out.ilt).2 _ _ h1;dsimp only at hi2 hbb;subst b2;obtain ⟨hb,hp,v,rfl,⟨A2,c2,rfl,hrow⟩,hI⟩:=hp;(try dsimp only at hp hrow hI);have hz2:=hb.size;(try simp at hz2);have hw:But (Xs E [w1.heap.size,w.heap.size]) w1 w2:=(zb.alloc _).trans hb (fun k _ h=>by rcases h with h | h | h <;> simp [Xs,h]);have Kr2:=k2 Kr1 hw (by omega) (by simp <;> omega);have HP2:=zh hp;have HB2:=YtfmgdmeopakdaaaGreatDoor.b2 HB1 hw (by simp <;> omega);clear pq0 pqf pql Kp1 Kr1 HP1 HB1 hw;have Nl2:=zn (lo:=(w1.heap.size+1)) hrow;clear hrow hb hp h1;have Kany2:Hid (Blk w2 w1.heap.size 9 #[.string (dotsT u2)]):=zh (hI.1);have Kp2:Hid (Blk w2 w.heap.size 49 #[(.pointer (some ⟨E.g,0,none⟩))]):=zh (hI.2);clear hI;have pq0:=Kp2.out.cell 0;simp at pq0;have pqf:=Kp2.out.frozen;have pql:=Kp2.out.lt;go_wp2_with fail;by_cases hq:oneOf (E.tok i2) [⟨#[41]⟩]=true
   case neg=>
    replace hq:=Bool.eq_false_iff.2 hq;replace hr:=need_bind0 hr hq;subst hr;refine (need_no (x:=⟨#[41]⟩) HE.out (HP2.out.alloc _) hq).mono ?_;rintro e wz ⟨rfl,hb⟩;go_wp2_with fail;exact ⟨rfl,(HB2.out.alloc _).then_ hb,rfl⟩
   case pos=>
    replace hr:=need_bind1 hr hq;(try dsimp only at hr);refine (need_yes (x:=⟨#[41]⟩) HE.out (HP2.out.alloc _) hq).mono ?_;rintro e w3 ⟨rfl,hp,hb⟩;simp only [tokV];have hx:=xm hb;have hz3:=hx.size;(try simp at hz3);have hw:But (Xs E []) w2 w3:=(zb.alloc _).trans hx xg;have Kr3:=k0 Kr2 hw;have Kany3:=k0 Kany2 hw;have Kp3:=k0 Kp2 hw;have Kl3:Hid (Blk w3 w2.heap.size 25 #[.int .i64 x2.k,.int .i64 x2.fr,.int .i64 x2.to,.string x2.tx,.slice A2 x2.ks.length c2]):=zh ((Blk.new' (by simp)).but hx (ng (by omega)));have Nl3:=n0 Nl2 hw;have HP3:=zh hp;have HB3:=b0 HB2 hw;clear pq0 pqf pql Kr2 Kany2 Kp2 Nl2 HP2 HB2 hw hb hx hp hq;have pq0:=Kp3.out.cell 0;simp at pq0;have pqf:=Kp3.out.frozen;have pql:=Kp3.out.lt;go_wp2_with fail;obtain ⟨rx,h1,hr⟩:=bind_cases hr;refine (results_calls HE.out HF.out HO.out (by omega) h1 HP3.out).mono ?_;rintro e w4 hp;rcases rx with p | ⟨x4,i4,b4⟩
    ·
     obtain ⟨hb,rfl⟩:=hp;(try dsimp only at hr);subst hr;(try go_wp2_with fail);exact ⟨rfl,HB3.out.trans hb mg,rfl⟩
    (try dsimp only at hr);obtain ⟨hi4,-,hbb⟩:=(results_fin HE.out.wt HF.out (by omega) HP3.out.ilt).2 _ _ h1;dsimp only at hi4 hbb;subst b4;obtain ⟨hb,hp,v,rfl,A4,c4,rfl,hrow⟩:=hp;(try dsimp only at hp hrow);have hz4:=hb.size;(try simp at hz4);have hw:=xs0 hb;have Kr4:=k0 Kr3 hw;have Kany4:=k0 Kany3 hw;have Kp4:=k0 Kp3 hw;have Kl4:=k0 Kl3 hw;have Nl4:=n0 Nl3 hw;have HP4:=zh hp;have HB4:=b0 HB3 hw;clear pq0 pqf pql Kr3 Kany3 Kp3 Kl3 Nl3 HP3 HB3 hw;have Nr24:=zn (lo:=w3.heap.size) hrow;clear hrow hb hp h1;have pq0:=Kp4.out.cell 0;simp at pq0;have pqf:=Kp4.out.frozen;have pql:=Kp4.out.lt;have anyq0:=Kany4.out.cell 0;simp at anyq0;have anyqf:=Kany4.out.frozen;have anyql:=Kany4.out.lt;obtain ⟨lq0,lq1,lq2,lq3,lq4,lqf,lql⟩:=Kl4.out.cells5;go_wp2_with fail;refine (made_calls HE.out ((HP4.out.alloc _).alloc _) (by omega)).mono ?_;rintro e w5 ⟨rfl,hb⟩;have hx:=kxb (E:=E) hb;have hz5:=hx.size;(try simp at hz5);have hw:But (Xs E []) w4 w5:=((zb.alloc _).alloc _).trans hx xg;have Kr5:=k0 Kr4 hw;have Kany5:=k0 Kany4 hw;have Kp5:=k0 Kp4 hw;have Kl5:=k0 Kl4 hw;have Kr25:Hid (Blk w5 w4.heap.size 25 #[.int .i64 x4.k,.int .i64 x4.fr,.int .i64 x4.to,.string x4.tx,.slice A4 x4.ks.length c4]):=zh (((Blk.new' (by simp)).alloc _).but hx (ng (by omega)));have Kks5:Hid (Blk w5 (w4.heap.size+1) 25 #[.int .i64 x2.k,.int .i64 x2.fr,.int .i64 x2.to,.string x2.tx,.slice A2 x2.ks.length c2,.int .i64 x4.k,.int .i64 x4.fr,.int .i64 x4.to,.string x4.tx,.slice A4 x4.ks.length c4]):=zh ((Blk.new' (by simp)).but hx (ng (by omega)));have Nl5:=n0 Nl4 hw;have Nr25:=n0 Nr24 hw;have HP5:=zh (((HP4.out.alloc _).alloc _).below hb);have HB5:=b0 HB4 hw;clear pq0 pqf pql anyq0 anyqf anyql lq0 lq1 lq2 lq3 lq4 lqf lql Kr4 Kany4 Kp4 Kl4 Nl4 Nr24 HP4 HB4 hw hb hx;obtain ⟨rq0,rq1,rq2,rq3,rq4,rqf,rql⟩:=Kr5.out.cells5;go_wp2_with fail;obtain rfl:=made_end hr
    exact node_ret (r:=w.heap.size+1) Tryz.results101 (by rfl) ((Kr5.out.put5 _ _ _ _ _).alloc _) (by rfl) ⟨((HB5.out.set5 (.inl (by omega)) _ _ _ _ _).alloc _),((HP5.out.far5 (by omega) (by omega) _ _ _ _ _).alloc _),_,rfl,_,_,rfl,rowN_blk (n:=2) ((Kks5.out.far5 (by omega) _ _ _ _ _).alloc _) (NosR.cons_ (nk Nl5 ((zr.set5 (iv (by omega)) _ _ _ _ _).za _) (by omega) (by first|omega|simp<;>omega)) (NosR.one (nk Nr25 ((zr.set5 (iv (by omega)) _ _ _ _ _).za _) (by omega) (by first|omega|simp<;>omega)))) rfl (by decide) (⟨by omega,by simp <;> omega⟩)⟩
end
set_option maxRecDepth 100000
set_option maxHeartbeats 2000000
theorem pair_ret {fn:Func} {R:Ending→World→Prop} {a:Act} {W:World} {r k m:Nat} {q:Bool} {u0 u1 u2 u3 u4:Value} (hres:fn.results = #[.cell k 25,.tmp m]) (hs:a.tmps[k]?.getD undef = .pointer (some ⟨r,0,none⟩)) (hq:a.tmps[m]?.getD undef = .bool q)
    (hB:Blk W r 25 #[u0,u1,u2,u3,u4]) (hd:a.defers=[]) (hR:R (.returned (.tuple #[.agg #[u0,u1,u2,u3,u4],.bool q])) W):bodyPost Tryz.prog fn R .ret a W:=by
  obtain ⟨r0,r1,r2,r3,r4,rf,rl⟩:=hB.cells5;refine bodyPost_ret ?_ hd hR;simp [results,hres,hs,hq,go_sem,r0,r1,r2,r3,r4]
section
variable {E:Env} {G:Gr} {lo:Nat} {w:World} {i:Nat} {b:Bool}
theorem field_calls (hE:EOk E) (hF:GF E.ts G lo) (hO:OkG E G) (hlo:lo<i) {r:Except Int ((No×Bool)×Ps)} (hr:fieldP E.ts G (i,b)=some r) (h:PS E w i b):Calls Tryz.prog 103 #[(.pointer (some ⟨E.g,0,none⟩))] w (Post E noX w (NoQ w) r):=by
  have hga:=h.glt;have haa:=h.lt;have hln:=hE.len;have hil:=h.ilt;have HP:=zh h;have HE:=zh hE;have HB0:Hid (But (fun k=>gX E k) w w):=zh zb;have HF:=zh hF;have HO:=zh hO;clear hF hO;clear h hE;have hf0:=tfield0;have hf1:=tfield1;have hf2:=tfield2;have hf3:=tfield3;go_enter Tryz.func103,Tryz.ntmps103;unfold fieldP at hr;replace hr:=from_bind hr;(try dsimp only at hr);go_wp2_with fail;refine (from_calls HE.out (HP.out.alloc _)).mono ?_;rintro e w1 ⟨rfl,hb⟩;have hx:=kxb (E:=E) hb;have hz1:=hx.size;(try simp at hz1);have hw:But (Xs E []) w w1:=(zb.alloc _).trans hx xg;have Kr1:Hid (Blk w1 w.heap.size 25 #[.int .i64 0,.int .i64 0,.int .i64 0,.string ⟨#[]⟩,.slice none 0 0]):=zh ((Blk.new' (by simp)).but hx (ng (by omega)));have HP1:=zh ((HP.out.alloc _).below hb);have HB1:=b0 HB0 hw;clear hw hb hx;go_wp2_with fail;by_cases hq:(E.tok i).k=1
  case neg=>
   replace hr:=name_bind0 hr hq;subst hr;refine (name_no HE.out HP1.out hq).mono ?_;rintro e wz ⟨rfl,hb⟩;go_wp2_with fail;exact ⟨rfl,HB1.out.then_ hb,rfl⟩
  case pos=>
   replace hr:=name_bind1 hr hq;(try dsimp only at hr);refine (name_yes HE.out HP1.out hq).mono ?_;rintro e w2 ⟨rfl,hp,hb⟩;have hx:=xm hb;have hz2:=hx.size;(try simp at hz2);have hw:=xs0 hx;have Kr2:=k0 Kr1 hw;have HP2:=zh hp;have HB2:=b0 HB1 hw;clear Kr1 HP1 HB1 hw hb hx hp;have Nn2:=nN w2 (E.tok i);clear hq;replace hr:=now_bind hr;(try dsimp only at hr);go_wp2_with fail;refine (is_calls (l:=[⟨#[46]⟩]) HE.out ((HP2.out.alloc _).alloc _) (strs_new (n:=w2.heap.size+1) [⟨#[46]⟩] (by simp) (by simp)) (old_new (by simp))).mono ?_;rintro e w3 ⟨rfl,hb⟩;have hx:=kxb (E:=E) hb;have hz3:=hx.size;(try simp at hz3);have hw:But (Xs E []) w2 w3:=((zb.alloc _).alloc _).trans hx xg;have Kr3:=k0 Kr2 hw;have Kn3:Hid (Blk w3 w2.heap.size 25 #[.int .i64 40,.int .i64 (E.tok i).fr,.int .i64 (E.tok i).to,.string (E.tok i).tx,.slice none 0 0]):=zh (((Blk.new' (by simp)).alloc _).but hx (ng (by omega)));have Nn3:=n0 Nn2 hw;have HP3:=zh (((HP2.out.alloc _).alloc _).below hb);have HB3:=b0 HB2 hw;clear Kr2 Nn2 HP2 HB2 hw hb hx;by_cases hq:oneOf (E.tok (i+1)) [⟨#[46]⟩]=true
   ·
    rw [hq];(try rw [if_pos hq] at hr);replace hr:=back_bind hr;rw [Nat.add_sub_cancel] at hr;obtain ⟨gq0,gq1,gq2,gqf,gql⟩:=HP3.out.cells;go_wp2_with fail;obtain ⟨rx,h1,hr⟩:=bind_cases hr;refine (typeName_calls HE.out h1 (HP3.out.set1 (j:=i) hil)).mono ?_;rintro e w4 hp;rcases rx with p | ⟨x4,i4,b4⟩
    ·
     obtain ⟨hb,rfl⟩:=hp;(try dsimp only at hr);subst hr;(try go_wp2_with fail);exact ⟨rfl,(HB3.out.set_ (p:=⟨E.g,1,none⟩) (.inr (.inl rfl)) _).trans hb mg,rfl⟩
    (try dsimp only at hr);obtain ⟨hi4,-,hbb⟩:=(typeName_fin HE.out.wt hil).2 _ _ h1;dsimp only at hi4 hbb;subst b4;obtain ⟨hb,hp,v,rfl,A4,c4,rfl,hrow⟩:=hp;(try dsimp only at hp hrow);have hz4:=hb.size;(try simp at hz4);have hw:But (Xs E []) w3 w4:=(zb.set_ (p:=⟨E.g,1,none⟩) (.inr (.inl rfl)) _).trans hb xg;have Kr4:=k0 Kr3 hw;have Kn4:=k0 Kn3 hw;have Nn4:=n0 Nn3 hw;have HP4:=zh hp;have HB4:=b0 HB3 hw;clear gq0 gq1 gq2 gqf gql Kr3 Kn3 Nn3 HP3 HB3 hw;have Nt4:=zn (lo:=w3.heap.size) hrow;clear hrow hb hp h1;go_wp2_with fail;refine (made_calls HE.out ((HP4.out.alloc _).alloc _) (by omega)).mono ?_;rintro e w5 ⟨rfl,hb⟩;have hx:=kxb (E:=E) hb;have hz5:=hx.size;(try simp at hz5);have hw:But (Xs E []) w4 w5:=((zb.alloc _).alloc _).trans hx xg;have Kr5:=k0 Kr4 hw;have Kn5:=k0 Kn4 hw;have Kt5:Hid (Blk w5 w4.heap.size 25 #[.int .i64 x4.k,.int .i64 x4.fr,.int .i64 x4.to,.string x4.tx,.slice A4 x4.ks.length c4]):=zh (((Blk.new' (by simp)).alloc _).but hx (ng (by omega)));have Kks5:Hid (Blk w5 (w4.heap.size+1) 25 #[.int .i64 x4.k,.int .i64 x4.fr,.int .i64 x4.to,.string x4.tx,.slice A4 x4.ks.length c4]):=zh ((Blk.new' (by simp)).but hx (ng (by omega)));have Nn5:=n0 Nn4 hw;have Nt5:=n0 Nt4 hw;have HP5:=zh (((HP4.out.alloc _).alloc _).below hb);have HB5:=b0 HB4 hw;clear Kr4 Kn4 Nn4 Nt4 HP4 HB4 hw hb hx;obtain ⟨rq0,rq1,rq2,rq3,rq4,rqf,rql⟩:=Kr5.out.cells5;go_wp2_with fail;replace hr:=made_bind hr;(try dsimp only at hr);obtain rfl:=pure_end hr;exact pair_ret (r:=w.heap.size) (q:=true) Tryz.results103 (by rfl) (by rfl) (Kr5.out.put5 _ _ _ _ _) (by rfl) ⟨(HB5.out.set5 (.inl (by omega)) _ _ _ _ _),(HP5.out.far5 (by omega) (by omega) _ _ _ _ _),_,rfl,_,_,rfl,rowN_blk (n:=1) (Kks5.out.far5 (by omega) _ _ _ _ _) (NosR.one (nk Nt5 (zr.set5 (iv (by omega)) _ _ _ _ _) (by omega) (by first|omega|simp<;>omega))) rfl (by decide) (⟨by omega,by simp <;> omega⟩)⟩
   ·
    replace hq:=Bool.eq_false_iff.2 hq;rw [hq];(try rw [if_neg (Bool.eq_false_iff.1 hq)] at hr);have HQ0:=zh hq;clear hq;go_wp2_with fail;refine (is_calls (l:=[⟨#[125]⟩]) HE.out (HP3.out.alloc _) (strs_new (n:=w3.heap.size) [⟨#[125]⟩] (by simp) (by simp)) (old_new (by simp))).mono ?_;rintro e w4 ⟨rfl,hb⟩;have hx:=kxb (E:=E) hb;have hz4:=hx.size;(try simp at hz4);have hw:But (Xs E []) w3 w4:=(zb.alloc _).trans hx xg;have Kr4:=k0 Kr3 hw;have Kn4:=k0 Kn3 hw;have Nn4:=n0 Nn3 hw;have HP4:=zh ((HP3.out.alloc _).below hb);have HB4:=b0 HB3 hw;clear Kr3 Kn3 Nn3 HP3 HB3 hw hb hx;by_cases hq:oneOf (E.tok (i+1)) [⟨#[125]⟩]=true
    ·
     rw [hq];(try rw [if_pos hq] at hr);rw [if_pos (.inl hq)] at hr;clear hq;obtain ⟨nq0,nq1,nq2,nq3,nq4,nqf,nql⟩:=Kn4.out.cells5;go_wp2_with fail;refine (made_calls HE.out (HP4.out.alloc _) (by omega)).mono ?_;rintro e w5 ⟨rfl,hb⟩;have hx:=kxb (E:=E) hb;have hz5:=hx.size;(try simp at hz5);have hw:But (Xs E []) w4 w5:=(zb.alloc _).trans hx xg;have Kr5:=k0 Kr4 hw;have Kn5:=k0 Kn4 hw;have Kks5:Hid (Blk w5 w4.heap.size 25 #[.int .i64 40,.int .i64 (E.tok i).fr,.int .i64 (E.tok i).to,.string (E.tok i).tx,.slice none 0 0]):=zh ((Blk.new' (by simp)).but hx (ng (by omega)));have Nn5:=n0 Nn4 hw;have HP5:=zh ((HP4.out.alloc _).below hb);have HB5:=b0 HB4 hw;clear nq0 nq1 nq2 nq3 nq4 nqf nql Kr4 Kn4 Nn4 HP4 HB4 hw hb hx;obtain ⟨rq0,rq1,rq2,rq3,rq4,rqf,rql⟩:=Kr5.out.cells5;go_wp2_with fail;replace hr:=made_bind hr;(try dsimp only at hr);obtain rfl:=pure_end hr;exact pair_ret (r:=w.heap.size) (q:=true) Tryz.results103 (by rfl) (by rfl) (Kr5.out.put5 _ _ _ _ _) (by rfl) ⟨(HB5.out.set5 (.inl (by omega)) _ _ _ _ _),(HP5.out.far5 (by omega) (by omega) _ _ _ _ _),_,rfl,_,_,rfl,rowN_blk (n:=1) (Kks5.out.far5 (by omega) _ _ _ _ _) (NosR.one (nk Nn5 (zr.set5 (iv (by omega)) _ _ _ _ _) (by omega) (by first|omega|simp<;>omega))) rfl (by decide) (⟨by omega,by simp <;> omega⟩)⟩
    ·
     replace hq:=Bool.eq_false_iff.2 hq;rw [hq];(try rw [if_neg (Bool.eq_false_iff.1 hq)] at hr);have HQ1:=zh hq;clear hq;go_wp2_with fail;refine (now_calls HE.out HP4.out).mono ?_;rintro e w5 ⟨rfl,hb⟩;simp only [tokV];have hx:=kxb (E:=E) hb;have hz5:=hx.size;(try simp at hz5);have hw:=xs0 hx;have Kr5:=k0 Kr4 hw;have Kn5:=k0 Kn4 hw;have Nn5:=n0 Nn4 hw;have HP5:=zh (HP4.out.below hb);have HB5:=b0 HB4 hw;clear Kr4 Kn4 Nn4 HP4 HB4 hw hb hx;by_cases hk:(E.tok (i+1)).k=6
     ·
      rw [if_pos (.inr hk)] at hr;(have hk6:((E.tok (i+1)).k == 6)=true:=by simpa using hk);clear hk;obtain ⟨nq0,nq1,nq2,nq3,nq4,nqf,nql⟩:=Kn5.out.cells5;go_wp2_with fail;refine (made_calls HE.out (HP5.out.alloc _) (by omega)).mono ?_;rintro e w6 ⟨rfl,hb⟩;have hx:=kxb (E:=E) hb;have hz6:=hx.size;(try simp at hz6);have hw:But (Xs E []) w5 w6:=(zb.alloc _).trans hx xg;have Kr6:=k0 Kr5 hw;have Kn6:=k0 Kn5 hw;have Kks6:Hid (Blk w6 w5.heap.size 25 #[.int .i64 40,.int .i64 (E.tok i).fr,.int .i64 (E.tok i).to,.string (E.tok i).tx,.slice none 0 0]):=zh ((Blk.new' (by simp)).but hx (ng (by omega)));have Nn6:=n0 Nn5 hw;have HP6:=zh ((HP5.out.alloc _).below hb);have HB6:=b0 HB5 hw;clear nq0 nq1 nq2 nq3 nq4 nqf nql Kr5 Kn5 Nn5 HP5 HB5 hw hb hx;obtain ⟨rq0,rq1,rq2,rq3,rq4,rqf,rql⟩:=Kr6.out.cells5;go_wp2_with fail;replace hr:=made_bind hr;(try dsimp only at hr);obtain rfl:=pure_end hr;exact pair_ret (r:=w.heap.size) (q:=true) Tryz.results103 (by rfl) (by rfl) (Kr6.out.put5 _ _ _ _ _) (by rfl) ⟨(HB6.out.set5 (.inl (by omega)) _ _ _ _ _),(HP6.out.far5 (by omega) (by omega) _ _ _ _ _),_,rfl,_,_,rfl,rowN_blk (n:=1) (Kks6.out.far5 (by omega) _ _ _ _ _) (NosR.one (nk Nn6 (zr.set5 (iv (by omega)) _ _ _ _ _) (by omega) (by first|omega|simp<;>omega))) rfl (by decide) (⟨by omega,by simp <;> omega⟩)⟩
     ·
      rw [if_neg (fun e=>by rcases e with e | e;exact Bool.eq_false_iff.1 HQ1.out e;exact hk e)] at hr;(have hk6:((E.tok (i+1)).k == 6)=false:=by simpa using hk);clear hk;go_wp2_with fail;obtain ⟨rx,h1,hr⟩:=bind_cases hr;refine (HO.out.typ h1 HP5.out).mono ?_;rintro e w6 hp;rcases rx with p | ⟨x6,i6,b6⟩
      ·
       obtain ⟨hb,rfl⟩:=hp;(try dsimp only at hr);subst hr;(try go_wp2_with fail);exact ⟨rfl,HB5.out.trans hb mg,rfl⟩
      (try dsimp only at hr);obtain ⟨hi6,-,hbb⟩:=(HF.out.typ _ _ (by omega) HP5.out.ilt).2 _ _ h1;dsimp only at hi6 hbb;subst b6;obtain ⟨hb,hp,v,rfl,A6,c6,rfl,hrow⟩:=hp;(try dsimp only at hp hrow);have hz6:=hb.size;(try simp at hz6);have hw:=xs0 hb;have Kr6:=k0 Kr5 hw;have Kn6:=k0 Kn5 hw;have Nn6:=n0 Nn5 hw;have HP6:=zh hp;have HB6:=b0 HB5 hw;clear Kr5 Kn5 Nn5 HP5 HB5 hw;have Nt6:=zn (lo:=w5.heap.size) hrow;clear hrow hb hp h1;obtain ⟨nq0,nq1,nq2,nq3,nq4,nqf,nql⟩:=Kn6.out.cells5;go_wp2_with fail;refine (made_calls HE.out ((HP6.out.alloc _).alloc _) (by omega)).mono ?_;rintro e w7 ⟨rfl,hb⟩;have hx:=kxb (E:=E) hb;have hz7:=hx.size;(try simp at hz7);have hw:But (Xs E []) w6 w7:=((zb.alloc _).alloc _).trans hx xg;have Kr7:=k0 Kr6 hw;have Kn7:=k0 Kn6 hw;have Kt7:Hid (Blk w7 w6.heap.size 25 #[.int .i64 x6.k,.int .i64 x6.fr,.int .i64 x6.to,.string x6.tx,.slice A6 x6.ks.length c6]):=zh (((Blk.new' (by simp)).alloc _).but hx (ng (by omega)));have Kks7:Hid (Blk w7 (w6.heap.size+1) 25 #[.int .i64 40,.int .i64 (E.tok i).fr,.int .i64 (E.tok i).to,.string (E.tok i).tx,.slice none 0 0,.int .i64 x6.k,.int .i64 x6.fr,.int .i64 x6.to,.string x6.tx,.slice A6 x6.ks.length c6]):=zh ((Blk.new' (by simp)).but hx (ng (by omega)));have Nn7:=n0 Nn6 hw;have Nt7:=n0 Nt6 hw;have HP7:=zh (((HP6.out.alloc _).alloc _).below hb);have HB7:=b0 HB6 hw;clear nq0 nq1 nq2 nq3 nq4 nqf nql Kr6 Kn6 Nn6 Nt6 HP6 HB6 hw hb hx;obtain ⟨rq0,rq1,rq2,rq3,rq4,rqf,rql⟩:=Kr7.out.cells5;go_wp2_with fail;replace hr:=made_bind hr;(try dsimp only at hr);obtain rfl:=pure_end hr
      exact pair_ret (r:=w.heap.size) (q:=true) Tryz.results103 (by rfl) (by rfl) (Kr7.out.put5 _ _ _ _ _) (by rfl) ⟨(HB7.out.set5 (.inl (by omega)) _ _ _ _ _),(HP7.out.far5 (by omega) (by omega) _ _ _ _ _),_,rfl,_,_,rfl,rowN_blk (n:=2) (Kks7.out.far5 (by omega) _ _ _ _ _) (NosR.cons_ (nk Nn7 (zr.set5 (iv (by omega)) _ _ _ _ _) (by omega) (by first|omega|simp<;>omega)) (NosR.one (nk Nt7 (zr.set5 (iv (by omega)) _ _ _ _ _) (by omega) (by first|omega|simp<;>omega)))) rfl (by decide) (⟨by omega,by simp <;> omega⟩)⟩
theorem element_calls (hE:EOk E) (hF:GF E.ts G lo) (hO:OkG E G) (hlo:lo<i) {r:Except Int ((No×Bool)×Ps)} (hr:elementP E.ts G (i,b)=some r) (h:PS E w i b):Calls Tryz.prog 104 #[(.pointer (some ⟨E.g,0,none⟩))] w (Post E noX w (NoQ w) r):=by
  have hga:=h.glt;have haa:=h.lt;have hln:=hE.len;have hil:=h.ilt;have HP:=zh h;have HE:=zh hE;have HB0:Hid (But (fun k=>gX E k) w w):=zh zb;have HF:=zh hF;have HO:=zh hO;clear hF hO;clear h hE;have hf0:=tfield0;have hf1:=tfield1;have hf2:=tfield2;have hf3:=tfield3;go_enter Tryz.func104,Tryz.ntmps104;unfold elementP at hr;replace hr:=from_bind hr;(try dsimp only at hr);go_wp2_with fail;refine (from_calls HE.out (HP.out.alloc _)).mono ?_;rintro e w1 ⟨rfl,hb⟩;have hx:=kxb (E:=E) hb;have hz1:=hx.size;(try simp at hz1);have hw:But (Xs E []) w w1:=(zb.alloc _).trans hx xg;have Kr1:Hid (Blk w1 w.heap.size 25 #[.int .i64 0,.int .i64 0,.int .i64 0,.string ⟨#[]⟩,.slice none 0 0]):=zh ((Blk.new' (by simp)).but hx (ng (by omega)));have HP1:=zh ((HP.out.alloc _).below hb);have HB1:=b0 HB0 hw;clear hw hb hx;go_wp2_with fail;by_cases hq:(E.tok i).k=1
  case neg=>
   replace hr:=name_bind0 hr hq;subst hr;refine (name_no HE.out HP1.out hq).mono ?_;rintro e wz ⟨rfl,hb⟩;go_wp2_with fail;exact ⟨rfl,HB1.out.then_ hb,rfl⟩
  case pos=>
   replace hr:=name_bind1 hr hq;(try dsimp only at hr);refine (name_yes HE.out HP1.out hq).mono ?_;rintro e w2 ⟨rfl,hp,hb⟩;have hx:=xm hb;have hz2:=hx.size;(try simp at hz2);have hw:=xs0 hx;have Kr2:=k0 Kr1 hw;have HP2:=zh hp;have HB2:=b0 HB1 hw;clear Kr1 HP1 HB1 hw hb hx hp;have Nn2:=nN w2 (E.tok i);clear hq;go_wp2_with fail;replace hr:=is_bind hr;(try dsimp only at hr);refine (is_calls (l:=[⟨#[40]⟩]) HE.out ((HP2.out.alloc _).alloc _) (strs_new (n:=w2.heap.size+1) [⟨#[40]⟩] (by simp) (by simp)) (old_new (by simp))).mono ?_;rintro e w3 ⟨rfl,hb⟩;have hx:=kxb (E:=E) hb;have hz3:=hx.size;(try simp at hz3);have hw:But (Xs E []) w2 w3:=((zb.alloc _).alloc _).trans hx xg;have Kr3:=k0 Kr2 hw;have Kn3:Hid (Blk w3 w2.heap.size 25 #[.int .i64 40,.int .i64 (E.tok i).fr,.int .i64 (E.tok i).to,.string (E.tok i).tx,.slice none 0 0]):=zh (((Blk.new' (by simp)).alloc _).but hx (ng (by omega)));have Nn3:=n0 Nn2 hw;have HP3:=zh (((HP2.out.alloc _).alloc _).below hb);have HB3:=b0 HB2 hw;clear Kr2 Nn2 HP2 HB2 hw hb hx;by_cases hq:oneOf (E.tok (i+1)) [⟨#[40]⟩]=true
   ·
    rw [hq];(try rw [if_pos hq] at hr);go_wp2_with fail;have hnx:i+1+1<E.ts.length:=HE.out.wt.nxt _ HP3.out.ilt (one_n7 hq);replace hr:=next_bind hr;(try dsimp only at hr);refine (next_calls HE.out HP3.out hnx).mono ?_;rintro e w4 ⟨rfl,hp,hb⟩;simp only [tokV];have hx:=xm hb;have hz4:=hx.size;(try simp at hz4);have hw:=xs0 hx;have Kr4:=k0 Kr3 hw;have Kn4:=k0 Kn3 hw;have Nn4:=n0 Nn3 hw;have HP4:=zh hp;have HB4:=b0 HB3 hw;clear Kr3 Kn3 Nn3 HP3 HB3 hw hb hx hp hnx hq;go_wp2_with fail;obtain ⟨rx,h1,hr⟩:=bind_cases hr;refine (types_calls (X:=noX) (lo:=lo+1) HE.out (typ_one HF.out HO.out) rfl h1 HP4.out trivial (by omega) (fun k hk=>hk.elim)).mono ?_;rintro e w5 hp;rcases rx with p | ⟨⟨x5,u5⟩,i5,b5⟩
    ·
     obtain ⟨hb,rfl⟩:=hp;(try dsimp only at hr);subst hr;(try go_wp2_with fail);exact ⟨rfl,HB4.out.trans hb mg,rfl⟩
    (try dsimp only at hr);obtain ⟨hi5,-,hbb⟩:=(types_fin HE.out.wt (fun u j hj h=>plain_fin (HF.out.typ _ _ (by omega) h)) HP4.out.ilt).2 _ _ h1;dsimp only at hi5 hbb;subst b5;obtain ⟨hb,hp,v,rfl,⟨A5,c5,rfl,hrow⟩,hI⟩:=hp;(try dsimp only at hp hrow hI);have hz5:=hb.size;(try simp at hz5);have hw:=xs0 hb;have Kr5:=k0 Kr4 hw;have Kn5:=k0 Kn4 hw;have Nn5:=n0 Nn4 hw;have HP5:=zh hp;have HB5:=b0 HB4 hw;clear Kr4 Kn4 Nn4 HP4 HB4 hw;have Nl5:=zn (lo:=w4.heap.size) hrow;clear hrow hb hp h1 hI;go_wp2_with fail;by_cases hq:oneOf (E.tok i5) [⟨#[41]⟩]=true
    case neg=>
     replace hq:=Bool.eq_false_iff.2 hq;replace hr:=need_bind0 hr hq;subst hr;refine (need_no (x:=⟨#[41]⟩) HE.out (HP5.out.alloc _) hq).mono ?_;rintro e wz ⟨rfl,hb⟩;go_wp2_with fail;exact ⟨rfl,(HB5.out.alloc _).then_ hb,rfl⟩
    case pos=>
     replace hr:=need_bind1 hr hq;(try dsimp only at hr);refine (need_yes (x:=⟨#[41]⟩) HE.out (HP5.out.alloc _) hq).mono ?_;rintro e w6 ⟨rfl,hp,hb⟩;simp only [tokV];have hx:=xm hb;have hz6:=hx.size;(try simp at hz6);have hw:But (Xs E []) w5 w6:=(zb.alloc _).trans hx xg;have Kr6:=k0 Kr5 hw;have Kn6:=k0 Kn5 hw;have Kl6:Hid (Blk w6 w5.heap.size 25 #[.int .i64 x5.k,.int .i64 x5.fr,.int .i64 x5.to,.string x5.tx,.slice A5 x5.ks.length c5]):=zh ((Blk.new' (by simp)).but hx (ng (by omega)));have Nn6:=n0 Nn5 hw;have Nl6:=n0 Nl5 hw;have HP6:=zh hp;have HB6:=b0 HB5 hw;clear Kr5 Kn5 Nn5 Nl5 HP5 HB5 hw hb hx hp hq;go_wp2_with fail;obtain ⟨rx,h1,hr⟩:=bind_cases hr;refine (results_calls HE.out HF.out HO.out (by omega) h1 HP6.out).mono ?_;rintro e w7 hp;rcases rx with p | ⟨x7,i7,b7⟩
     ·
      obtain ⟨hb,rfl⟩:=hp;(try dsimp only at hr);subst hr;(try go_wp2_with fail);exact ⟨rfl,HB6.out.trans hb mg,rfl⟩
     (try dsimp only at hr);obtain ⟨hi7,-,hbb⟩:=(results_fin HE.out.wt HF.out (by omega) HP6.out.ilt).2 _ _ h1;dsimp only at hi7 hbb;subst b7;obtain ⟨hb,hp,v,rfl,A7,c7,rfl,hrow⟩:=hp;(try dsimp only at hp hrow);have hz7:=hb.size;(try simp at hz7);have hw:=xs0 hb;have Kr7:=k0 Kr6 hw;have Kn7:=k0 Kn6 hw;have Kl7:=k0 Kl6 hw;have Nn7:=n0 Nn6 hw;have Nl7:=n0 Nl6 hw;have HP7:=zh hp;have HB7:=b0 HB6 hw;clear Kr6 Kn6 Kl6 Nn6 Nl6 HP6 HB6 hw;have Nr27:=zn (lo:=w6.heap.size) hrow;clear hrow hb hp h1;obtain ⟨nq0,nq1,nq2,nq3,nq4,nqf,nql⟩:=Kn7.out.cells5;obtain ⟨lq0,lq1,lq2,lq3,lq4,lqf,lql⟩:=Kl7.out.cells5;go_wp2_with fail;refine (made_calls HE.out ((HP7.out.alloc _).alloc _) (by omega)).mono ?_;rintro e w8 ⟨rfl,hb⟩;have hx:=kxb (E:=E) hb;have hz8:=hx.size;(try simp at hz8);have hw:But (Xs E []) w7 w8:=((zb.alloc _).alloc _).trans hx xg;have Kr8:=k0 Kr7 hw;have Kn8:=k0 Kn7 hw;have Kl8:=k0 Kl7 hw;have Kr28:Hid (Blk w8 w7.heap.size 25 #[.int .i64 x7.k,.int .i64 x7.fr,.int .i64 x7.to,.string x7.tx,.slice A7 x7.ks.length c7]):=zh (((Blk.new' (by simp)).alloc _).but hx (ng (by omega)));have Kks8:Hid (Blk w8 (w7.heap.size+1) 25 #[.int .i64 40,.int .i64 (E.tok i).fr,.int .i64 (E.tok i).to,.string (E.tok i).tx,.slice none 0 0,.int .i64 x5.k,.int .i64 x5.fr,.int .i64 x5.to,.string x5.tx,.slice A5 x5.ks.length c5,.int .i64 x7.k,.int .i64 x7.fr,.int .i64 x7.to,.string x7.tx,.slice A7 x7.ks.length c7]):=zh ((Blk.new' (by simp)).but hx (ng (by omega)));have Nn8:=n0 Nn7 hw;have Nl8:=n0 Nl7 hw;have Nr28:=n0 Nr27 hw;have HP8:=zh (((HP7.out.alloc _).alloc _).below hb);have HB8:=b0 HB7 hw;clear nq0 nq1 nq2 nq3 nq4 nqf nql lq0 lq1 lq2 lq3 lq4 lqf lql Kr7 Kn7 Kl7 Nn7 Nl7 Nr27 HP7 HB7 hw hb hx;obtain ⟨rq0,rq1,rq2,rq3,rq4,rqf,rql⟩:=Kr8.out.cells5;go_wp2_with fail;replace hr:=made_bind hr;(try dsimp only at hr);obtain rfl:=pure_end hr
     exact pair_ret (r:=w.heap.size) (q:=true) Tryz.results104 (by rfl) (by rfl) (Kr8.out.put5 _ _ _ _ _) (by rfl) ⟨(HB8.out.set5 (.inl (by omega)) _ _ _ _ _),(HP8.out.far5 (by omega) (by omega) _ _ _ _ _),_,rfl,_,_,rfl,rowN_blk (n:=3) (Kks8.out.far5 (by omega) _ _ _ _ _) (NosR.cons_ (nk Nn8 (zr.set5 (iv (by omega)) _ _ _ _ _) (by omega) (by first|omega|simp<;>omega)) (NosR.cons_ (nk Nl8 (zr.set5 (iv (by omega)) _ _ _ _ _) (by omega) (by first|omega|simp<;>omega)) (NosR.one (nk Nr28 (zr.set5 (iv (by omega)) _ _ _ _ _) (by omega) (by first|omega|simp<;>omega))))) rfl (by decide) (⟨by omega,by simp <;> omega⟩)⟩
   ·
    replace hq:=Bool.eq_false_iff.2 hq;rw [hq];(try rw [if_neg (Bool.eq_false_iff.1 hq)] at hr);clear hq;replace hr:=back_bind hr;rw [Nat.add_sub_cancel] at hr;obtain ⟨gq0,gq1,gq2,gqf,gql⟩:=HP3.out.cells;go_wp2_with fail;obtain ⟨rx,h1,hr⟩:=bind_cases hr;refine (typeName_calls HE.out h1 (HP3.out.set1 (j:=i) hil)).mono ?_;rintro e w4 hp;rcases rx with p | ⟨x4,i4,b4⟩
    ·
     obtain ⟨hb,rfl⟩:=hp;(try dsimp only at hr);subst hr;(try go_wp2_with fail);exact ⟨rfl,(HB3.out.set_ (p:=⟨E.g,1,none⟩) (.inr (.inl rfl)) _).trans hb mg,rfl⟩
    (try dsimp only at hr);obtain ⟨hi4,-,hbb⟩:=(typeName_fin HE.out.wt hil).2 _ _ h1;dsimp only at hi4 hbb;subst b4;obtain ⟨hb,hp,v,rfl,A4,c4,rfl,hrow⟩:=hp;(try dsimp only at hp hrow);have hz4:=hb.size;(try simp at hz4);have hw:But (Xs E []) w3 w4:=(zb.set_ (p:=⟨E.g,1,none⟩) (.inr (.inl rfl)) _).trans hb xg;have Kr4:=k0 Kr3 hw;have Kn4:=k0 Kn3 hw;have Nn4:=n0 Nn3 hw;have HP4:=zh hp;have HB4:=b0 HB3 hw;clear gq0 gq1 gq2 gqf gql Kr3 Kn3 Nn3 HP3 HB3 hw;have Nt4:=zn (lo:=w3.heap.size) hrow;clear hrow hb hp h1;go_wp2_with fail;refine (made_calls HE.out ((HP4.out.alloc _).alloc _) (by omega)).mono ?_;rintro e w5 ⟨rfl,hb⟩;have hx:=kxb (E:=E) hb;have hz5:=hx.size;(try simp at hz5);have hw:But (Xs E []) w4 w5:=((zb.alloc _).alloc _).trans hx xg;have Kr5:=k0 Kr4 hw;have Kn5:=k0 Kn4 hw;have Kt5:Hid (Blk w5 w4.heap.size 25 #[.int .i64 x4.k,.int .i64 x4.fr,.int .i64 x4.to,.string x4.tx,.slice A4 x4.ks.length c4]):=zh (((Blk.new' (by simp)).alloc _).but hx (ng (by omega)));have Kks5:Hid (Blk w5 (w4.heap.size+1) 25 #[.int .i64 x4.k,.int .i64 x4.fr,.int .i64 x4.to,.string x4.tx,.slice A4 x4.ks.length c4]):=zh ((Blk.new' (by simp)).but hx (ng (by omega)));have Nn5:=n0 Nn4 hw;have Nt5:=n0 Nt4 hw;have HP5:=zh (((HP4.out.alloc _).alloc _).below hb);have HB5:=b0 HB4 hw;clear Kr4 Kn4 Nn4 Nt4 HP4 HB4 hw hb hx;obtain ⟨rq0,rq1,rq2,rq3,rq4,rqf,rql⟩:=Kr5.out.cells5;go_wp2_with fail;replace hr:=made_bind hr;(try dsimp only at hr);obtain rfl:=pure_end hr;exact pair_ret (r:=w.heap.size) (q:=true) Tryz.results104 (by rfl) (by rfl) (Kr5.out.put5 _ _ _ _ _) (by rfl) ⟨(HB5.out.set5 (.inl (by omega)) _ _ _ _ _),(HP5.out.far5 (by omega) (by omega) _ _ _ _ _),_,rfl,_,_,rfl,rowN_blk (n:=1) (Kks5.out.far5 (by omega) _ _ _ _ _) (NosR.one (nk Nt5 (zr.set5 (iv (by omega)) _ _ _ _ _) (by omega) (by first|omega|simp<;>omega))) rfl (by decide) (⟨by omega,by simp <;> omega⟩)⟩
end
set_option maxRecDepth 100000
set_option maxHeartbeats 4000000
section
variable {E:Env} {G:Gr} {lo:Nat} {w:World} {i:Nat} {b:Bool}
theorem enters_braced1 (args:Array Value) (w:World):(callFunc 142 args).run Tryz.prog w = .ok (.enter 142 args) w:=by kernel_rfl
theorem braced1_calls (hE:EOk E) {pb:Nat} (h:PS E w i b) (hp:Blk w pb 49 #[(.pointer (some ⟨E.g,0,none⟩))]):Calls Tryz.prog 142 #[.pointer (some ⟨pb,0,none⟩)] w fun e w'=>e = .returned (.bool (oneOf (E.tok i) [⟨#[125]⟩]))∧Below w.heap.size w w':=by
  have q0:=hp.cell 0;have ql:=hp.lt;simp at q0;have HP:=zh h;have HE:=zh hE;clear h hE hp;go_enter Tryz.func142,Tryz.ntmps142;go_wp2_with fail;refine (is_calls (l:=[⟨#[125]⟩]) HE.out (HP.out.alloc _) (str_one (n:=w.heap.size) rfl) (old_new rfl)).mono ?_;rintro e w1 ⟨rfl,hb1⟩;have HB1:Hid (Below w.heap.size w w1):=(below_al _ _).trans (hb1.mono (by simp));clear hb1;go_wp2_with fail;go_ret;exact ⟨rfl,HB1.out⟩
theorem ends_brace (hE:EOk E) {pb:Nat}:Ends E (fun w=>Blk w pb 49 #[(.pointer (some ⟨E.g,0,none⟩))]) (fun t=>oneOf t [⟨#[125]⟩]) 142 #[.pointer (some ⟨pb,0,none⟩)] where
  call _ _ _ h hI:=braced1_calls hE h hI
  ent w:=enters_braced1 _ w
theorem oneQ_of {pb:Nat} (hpb:pb≠E.g) {one:PM (No×Bool)} {f:Nat} {args:Array Value} (hc:∀ w i b r,lo≤i→PS E w i b→one (i,b)=some r→Calls Tryz.prog f args w (Post E noX w (NoQ w) r))
    (hf:∀ i b,lo≤i→i<E.ts.length→Fine E.ts i one i b) (he:∀ w,(callFunc f args).run Tryz.prog w = .ok (.enter f args) w):OneQ E (fun k=>k=pb) (fun w=>Blk w pb 49 #[(.pointer (some ⟨E.g,0,none⟩))]) one f args lo where
  call w i b r hi hps hI hr:=(hc w i b r hi hps hr).mono fun e w' h=>by
    obtain ⟨hb,h⟩:=h;refine ⟨hb.mono fun _ _ h=>by rcases h with h | h;exact .inl h;exact h.elim,?_⟩;cases r with
    | error p=>exact h
    | ok aa=>
      obtain ⟨hp,v,e1,hv⟩:=h;exact ⟨hp,v,e1,hv,hI.but hb fun e=>by rcases e with e | e;exact hpb e;exact e⟩
  fine:=hf
  ent:=he
theorem braced_calls (hE:EOk E) {one:PM (No×Bool)} {n:Nat} {first cap args:Array Value} (hq:∀ pb,pb≠E.g→OneQ E (fun k=>k=pb) (fun w=>Blk w pb 49 #[(.pointer (some ⟨E.g,0,none⟩))]) one n args lo) (ha:first ++ cap=args) (hfi:∀ j,lo≤j→j<E.ts.length→Fine E.ts j one j b) (hlo:lo≤i+1)
    {r:Except Int (List No×Ps)} (hr:bracedP E.ts one (i,b)=some r) (h:PS E w i b):Calls Tryz.prog 102 #[(.pointer (some ⟨E.g,0,none⟩)),.func (.func n) first cap] w (Post E noX w (NosV w) r):=by
  have hga:=h.glt;have haa:=h.lt;have hln:=hE.len;have hil:=h.ilt;have HP:=zh h;have HE:=zh hE;have HQ:=zh hq;have HA:=zh ha;have HFI:=zh hfi;have HB0:Hid (But (fun k=>gX E k) w w):=zh zb;clear h hE hq ha hfi;have hf0:=tfield0;have hf1:=tfield1;have hf2:=tfield2;have hf3:=tfield3;go_enter Tryz.func102,Tryz.ntmps102;unfold bracedP at hr;go_wp2_with fail;by_cases hq:oneOf (E.tok i) [⟨#[123]⟩]=true
  case neg=>
   replace hq:=Bool.eq_false_iff.2 hq;replace hr:=need_bind0 hr hq;subst hr;refine (need_no (x:=⟨#[123]⟩) HE.out (HP.out.alloc _) hq).mono ?_;rintro e wz ⟨rfl,hb⟩;go_wp2_with fail;exact ⟨rfl,(HB0.out.alloc _).then_ hb,rfl⟩
  case pos=>
   replace hr:=need_bind1 hr hq;(try dsimp only at hr);refine (need_yes (x:=⟨#[123]⟩) HE.out (HP.out.alloc _) hq).mono ?_;rintro e w1 ⟨rfl,hp,hb⟩;simp only [tokV];have hx:=xm hb;have hz1:=hx.size;(try simp at hz1);have hw:But (Xs E []) w w1:=(zb.alloc _).trans hx xg;have Kp1:Hid (Blk w1 w.heap.size 49 #[(.pointer (some ⟨E.g,0,none⟩))]):=zh ((Blk.new' (by simp)).but hx (ng (by omega)));have HP1:=zh hp;have HB1:=b0 HB0 hw;clear hw hb hx hp hq;have pq0:=Kp1.out.cell 0;simp at pq0;have pqf:=Kp1.out.frozen;have pql:=Kp1.out.lt;go_wp2_with fail;obtain ⟨rx,h1,hr⟩:=bind_cases hr;refine (row_calls (X:=fun k=>k=w.heap.size) (I:=fun w'=>Blk w' w.heap.size 49 #[(.pointer (some ⟨E.g,0,none⟩))]) (ends:=fun t=>oneOf t [⟨#[125]⟩]) (lo:=lo) HE.out (HQ.out _ (by omega)) HA.out (ends_brace HE.out) (fun _ _ h k=>(k _ rfl).trans h) (by omega) h1 HP1.out Kp1.out (by omega) (fun k hk=>by subst hk;omega)).mono ?_;rintro e w2 hp;rcases rx with p | ⟨l2,i2,b2⟩
   ·
    obtain ⟨hb,rfl⟩:=hp;(try dsimp only at hr);subst hr;(try go_wp2_with fail);exact ⟨rfl,HB1.out.trans hb (fun k hk h=>by rcases h with h | h;exact .inl h;all_goals first | exact h.elim | exact .inr h | exact .inr (.inl h) | (exfalso;omega)),rfl⟩
   (try dsimp only at hr);obtain ⟨hi2,-,hbb⟩:=(fin_row HE.out.wt lo (fun j hj h=>HFI.out j hj h) _ _ _ (by omega) HP1.out.ilt (by omega)).2 _ _ h1;dsimp only at hi2 hbb;subst b2;obtain ⟨hb,hp,v,rfl,⟨A2,c2,rfl,hrow⟩,hI⟩:=hp;(try dsimp only at hp hrow hI);have hz2:=hb.size;(try simp at hz2);have hw:But (Xs E [w.heap.size]) w1 w2:=zb.trans hb (fun k _ h=>by rcases h with h | h <;> simp [Xs,h]);have HP2:=zh hp;have HB2:=b1 HB1 hw (by omega);clear pq0 pqf pql Kp1 HP1 HB1 hw;have Nl2:=zm (lo:=w1.heap.size) hrow;clear hrow hb hp h1;have Kp2:Hid (Blk w2 w.heap.size 49 #[(.pointer (some ⟨E.g,0,none⟩))]):=zh hI;clear hI;have pq0:=Kp2.out.cell 0;simp at pq0;have pqf:=Kp2.out.frozen;have pql:=Kp2.out.lt;go_wp2_with fail;by_cases hq:oneOf (E.tok i2) [⟨#[125]⟩]=true
   case neg=>
    replace hq:=Bool.eq_false_iff.2 hq;replace hr:=need_bind0 hr hq;subst hr;refine (need_no (x:=⟨#[125]⟩) HE.out HP2.out hq).mono ?_;rintro e wz ⟨rfl,hb⟩;go_wp2_with fail;exact ⟨rfl,HB2.out.then_ hb,rfl⟩
   case pos=>
    replace hr:=need_bind1 hr hq;(try dsimp only at hr);refine (need_yes (x:=⟨#[125]⟩) HE.out HP2.out hq).mono ?_;rintro e w3 ⟨rfl,hp,hb⟩;simp only [tokV];have hx:=xm hb;have hz3:=hx.size;(try simp at hz3);have hw:=xs0 hx;have Kp3:=k0 Kp2 hw;have Nl3:=r0 Nl2 hw;have HP3:=zh hp;have HB3:=b0 HB2 hw;clear pq0 pqf pql Kp2 Nl2 HP2 HB2 hw hb hx hp hq;go_wp2_with fail;go_ret;obtain rfl:=pure_end hr;exact ⟨HB3.out,HP3.out,_,rfl,_,_,rfl,(rk Nl3 zr (by omega) (by first|omega|simp<;>omega))⟩
theorem enters_field (args:Array Value) (w:World):(callFunc 103 args).run Tryz.prog w = .ok (.enter 103 args) w:=by kernel_rfl
theorem enters_element (args:Array Value) (w:World):(callFunc 104 args).run Tryz.prog w = .ok (.enter 104 args) w:=by kernel_rfl
theorem typ_calls (hE:EOk E) (hF:GF E.ts G lo) (hO:OkG E G) (hlo:lo≤i) {r:Except Int (No×Ps)} (hr:typP E.ts G (i,b)=some r) (h:PS E w i b):Calls Tryz.prog 79 #[(.pointer (some ⟨E.g,0,none⟩))] w (Post E noX w (NoV w) r):=by
  have hga:=h.glt;have haa:=h.lt;have hln:=hE.len;have hil:=h.ilt;have HP:=zh h;have HE:=zh hE;have HB0:Hid (But (fun k=>gX E k) w w):=zh zb;have HF:=zh hF;have HO:=zh hO;clear hF hO;clear h hE;have hf0:=tfield0;have hf1:=tfield1;have hf2:=tfield2;have hf3:=tfield3;go_enter Tryz.func79,Tryz.ntmps79;unfold typP at hr;replace hr:=now_bind hr;(try dsimp only at hr);go_wp2_with fail;refine (from_calls HE.out (HP.out.alloc _)).mono ?_;rintro e w1 ⟨rfl,hb⟩;have hx:=kxb (E:=E) hb;have hz1:=hx.size;(try simp at hz1);have hw:But (Xs E []) w w1:=(zb.alloc _).trans hx xg;have Kr1:Hid (Blk w1 w.heap.size 25 #[.int .i64 0,.int .i64 0,.int .i64 0,.string ⟨#[]⟩,.slice none 0 0]):=zh ((Blk.new' (by simp)).but hx (ng (by omega)));have HP1:=zh ((HP.out.alloc _).below hb);have HB1:=b0 HB0 hw;clear hw hb hx;go_wp2_with fail;refine (named_calls HE.out HP1.out).mono ?_;rintro e w2 ⟨rfl,hb⟩;have hx:=kxb (E:=E) hb;have hz2:=hx.size;(try simp at hz2);have hw:=xs0 hx;have Kr2:=k0 Kr1 hw;have HP2:=zh (HP1.out.below hb);have HB2:=b0 HB1 hw;clear Kr1 HP1 HB1 hw hb hx;by_cases hq:(E.tok i).k=1
  ·
   rw [if_pos hq] at hr;rw [show decide ((E.tok i).k=1)=true from decide_eq_true hq];clear hq;go_wp2_with fail;have hrr:typeNameP E.ts (i,b)=some r:=hr;refine (typeName_calls HE.out hrr HP2.out).mono ?_;rintro e w3 hp;rcases r with p | ⟨x,i2,b2⟩
   ·
    obtain ⟨hb,rfl⟩:=hp;go_wp2_with fail;exact ⟨rfl,HB2.out.trans hb mg,rfl⟩
   obtain ⟨hb,hp,v,rfl,A2,c2,rfl,hrow⟩:=hp;(try dsimp only at hp hrow);have hz3:=hb.size;(try simp at hz3);have hw:=xs0 hb;have Kr3:=k0 Kr2 hw;have HP3:=zh hp;have HB3:=b0 HB2 hw;clear Kr2 HP2 HB2 hw;have Nx3:Hid (RowN w3 (Iv w2.heap.size w3.heap.size) (.slice A2 x.ks.length c2) x.ks):=zh hrow;obtain ⟨rq0,rq1,rq2,rq3,rq4,rqf,rql⟩:=Kr3.out.cells5;go_wp2_with fail;exact node_ret (r:=w.heap.size) Tryz.results79 (by rfl) (Kr3.out.put5 _ _ _ _ _) (by rfl) ⟨(HB3.out.set5 (.inl (by omega)) _ _ _ _ _),(HP3.out.far5 (by omega) (by omega) _ _ _ _ _),_,rfl,_,_,rfl,(rk Nx3 (zr.set5 (iv (by omega)) _ _ _ _ _) (by omega) (by first|omega|simp<;>omega))⟩
  ·
   rw [if_neg hq] at hr;rw [show decide ((E.tok i).k=1)=false from decide_eq_false hq];(try clear hq);go_wp2_with fail;by_cases hq:oneOf (E.tok i) [⟨#[42]⟩]=true
   ·
    replace hr:=take_bind1 hr hq;(try dsimp only at hr);(try rw [if_pos rfl] at hr);refine (take_yes (l:=[⟨#[42]⟩]) HE.out (HP2.out.alloc _) (strs_new (n:=w2.heap.size) [⟨#[42]⟩] (by simp) (by simp)) (old_new (by simp)) hq).mono ?_;rintro e w3 ⟨rfl,hp,hb⟩;have hx:=xm hb;have hz3:=hx.size;(try simp at hz3);have hw:But (Xs E []) w2 w3:=(zb.alloc _).trans hx xg;have Kr3:=k0 Kr2 hw;have HP3:=zh hp;have HB3:=b0 HB2 hw;clear Kr2 HP2 HB2 hw hb hx hp hq;go_wp2_with fail;obtain ⟨rx,h1,hr⟩:=bind_cases hr;refine (HO.out.typ h1 HP3.out).mono ?_;rintro e w4 hp;rcases rx with p | ⟨x4,i4,b4⟩
    ·
     obtain ⟨hb,rfl⟩:=hp;(try dsimp only at hr);subst hr;(try go_wp2_with fail);exact ⟨rfl,HB3.out.trans hb mg,rfl⟩
    (try dsimp only at hr);obtain ⟨hi4,-,hbb⟩:=(HF.out.typ _ _ (by omega) HP3.out.ilt).2 _ _ h1;dsimp only at hi4 hbb;subst b4;obtain ⟨hb,hp,v,rfl,A4,c4,rfl,hrow⟩:=hp;(try dsimp only at hp hrow);have hz4:=hb.size;(try simp at hz4);have hw:=xs0 hb;have Kr4:=k0 Kr3 hw;have HP4:=zh hp;have HB4:=b0 HB3 hw;clear Kr3 HP3 HB3 hw;have Nt4:=zn (lo:=w3.heap.size) hrow;clear hrow hb hp h1;go_wp2_with fail;refine (made_calls HE.out ((HP4.out.alloc _).alloc _) (by omega)).mono ?_;rintro e w5 ⟨rfl,hb⟩;have hx:=kxb (E:=E) hb;have hz5:=hx.size;(try simp at hz5);have hw:But (Xs E []) w4 w5:=((zb.alloc _).alloc _).trans hx xg;have Kr5:=k0 Kr4 hw;have Kt5:Hid (Blk w5 w4.heap.size 25 #[.int .i64 x4.k,.int .i64 x4.fr,.int .i64 x4.to,.string x4.tx,.slice A4 x4.ks.length c4]):=zh (((Blk.new' (by simp)).alloc _).but hx (ng (by omega)));have Kks5:Hid (Blk w5 (w4.heap.size+1) 25 #[.int .i64 x4.k,.int .i64 x4.fr,.int .i64 x4.to,.string x4.tx,.slice A4 x4.ks.length c4]):=zh ((Blk.new' (by simp)).but hx (ng (by omega)));have Nt5:=n0 Nt4 hw;have HP5:=zh (((HP4.out.alloc _).alloc _).below hb);have HB5:=b0 HB4 hw;clear Kr4 Nt4 HP4 HB4 hw hb hx;obtain ⟨rq0,rq1,rq2,rq3,rq4,rqf,rql⟩:=Kr5.out.cells5;go_wp2_with fail;obtain rfl:=made_end hr;exact node_ret (r:=w.heap.size) Tryz.results79 (by rfl) (Kr5.out.put5 _ _ _ _ _) (by rfl) ⟨(HB5.out.set5 (.inl (by omega)) _ _ _ _ _),(HP5.out.far5 (by omega) (by omega) _ _ _ _ _),_,rfl,_,_,rfl,rowN_blk (n:=1) (Kks5.out.far5 (by omega) _ _ _ _ _) (NosR.one (nk Nt5 (zr.set5 (iv (by omega)) _ _ _ _ _) (by omega) (by first|omega|simp<;>omega))) rfl (by decide) (⟨by omega,by simp <;> omega⟩)⟩
   ·
    replace hq:=Bool.eq_false_iff.2 hq;replace hr:=take_bind0 hr hq;(try dsimp only at hr);(try rw [if_neg Bool.false_ne_true] at hr);refine (take_no (l:=[⟨#[42]⟩]) HE.out (HP2.out.alloc _) (strs_new (n:=w2.heap.size) [⟨#[42]⟩] (by simp) (by simp)) (old_new (by simp)) hq).mono ?_;rintro e w3 ⟨rfl,hb⟩;have hx:=kxb (E:=E) hb;have hz3:=hx.size;(try simp at hz3);have hw:But (Xs E []) w2 w3:=(zb.alloc _).trans hx xg;have Kr3:=k0 Kr2 hw;have HP3:=zh ((HP2.out.alloc _).below hb);have HB3:=b0 HB2 hw;clear Kr2 HP2 HB2 hw hb hx;(try clear hq);go_wp2_with fail;by_cases hq:oneOf (E.tok i) [⟨#[91]⟩]=true
    ·
     replace hr:=take_bind1 hr hq;(try dsimp only at hr);(try rw [if_pos rfl] at hr);refine (take_yes (l:=[⟨#[91]⟩]) HE.out (HP3.out.alloc _) (strs_new (n:=w3.heap.size) [⟨#[91]⟩] (by simp) (by simp)) (old_new (by simp)) hq).mono ?_;rintro e w4 ⟨rfl,hp,hb⟩;have hx:=xm hb;have hz4:=hx.size;(try simp at hz4);have hw:But (Xs E []) w3 w4:=(zb.alloc _).trans hx xg;have Kr4:=k0 Kr3 hw;have HP4:=zh hp;have HB4:=b0 HB3 hw;clear Kr3 HP3 HB3 hw hb hx hp hq;go_wp2_with fail;by_cases hq:oneOf (E.tok (i+1)) [⟨#[93]⟩]=true
     case neg=>
      replace hq:=Bool.eq_false_iff.2 hq;replace hr:=need_bind0 hr hq;subst hr;refine (need_no (x:=⟨#[93]⟩) HE.out HP4.out hq).mono ?_;rintro e wz ⟨rfl,hb⟩;go_wp2_with fail;exact ⟨rfl,HB4.out.then_ hb,rfl⟩
     case pos=>
      replace hr:=need_bind1 hr hq;(try dsimp only at hr);refine (need_yes (x:=⟨#[93]⟩) HE.out HP4.out hq).mono ?_;rintro e w5 ⟨rfl,hp,hb⟩;simp only [tokV];have hx:=xm hb;have hz5:=hx.size;(try simp at hz5);have hw:=xs0 hx;have Kr5:=k0 Kr4 hw;have HP5:=zh hp;have HB5:=b0 HB4 hw;clear Kr4 HP4 HB4 hw hb hx hp hq;go_wp2_with fail;obtain ⟨rx,h1,hr⟩:=bind_cases hr;refine (HO.out.typ h1 HP5.out).mono ?_;rintro e w6 hp;rcases rx with p | ⟨x6,i6,b6⟩
      ·
       obtain ⟨hb,rfl⟩:=hp;(try dsimp only at hr);subst hr;(try go_wp2_with fail);exact ⟨rfl,HB5.out.trans hb mg,rfl⟩
      (try dsimp only at hr);obtain ⟨hi6,-,hbb⟩:=(HF.out.typ _ _ (by omega) HP5.out.ilt).2 _ _ h1;dsimp only at hi6 hbb;subst b6;obtain ⟨hb,hp,v,rfl,A6,c6,rfl,hrow⟩:=hp;(try dsimp only at hp hrow);have hz6:=hb.size;(try simp at hz6);have hw:=xs0 hb;have Kr6:=k0 Kr5 hw;have HP6:=zh hp;have HB6:=b0 HB5 hw;clear Kr5 HP5 HB5 hw;have Nt6:=zn (lo:=w5.heap.size) hrow;clear hrow hb hp h1;go_wp2_with fail;refine (made_calls HE.out ((HP6.out.alloc _).alloc _) (by omega)).mono ?_;rintro e w7 ⟨rfl,hb⟩;have hx:=kxb (E:=E) hb;have hz7:=hx.size;(try simp at hz7);have hw:But (Xs E []) w6 w7:=((zb.alloc _).alloc _).trans hx xg;have Kr7:=k0 Kr6 hw;have Kt7:Hid (Blk w7 w6.heap.size 25 #[.int .i64 x6.k,.int .i64 x6.fr,.int .i64 x6.to,.string x6.tx,.slice A6 x6.ks.length c6]):=zh (((Blk.new' (by simp)).alloc _).but hx (ng (by omega)));have Kks7:Hid (Blk w7 (w6.heap.size+1) 25 #[.int .i64 x6.k,.int .i64 x6.fr,.int .i64 x6.to,.string x6.tx,.slice A6 x6.ks.length c6]):=zh ((Blk.new' (by simp)).but hx (ng (by omega)));have Nt7:=n0 Nt6 hw;have HP7:=zh (((HP6.out.alloc _).alloc _).below hb);have HB7:=b0 HB6 hw;clear Kr6 Nt6 HP6 HB6 hw hb hx;obtain ⟨rq0,rq1,rq2,rq3,rq4,rqf,rql⟩:=Kr7.out.cells5;go_wp2_with fail;obtain rfl:=made_end hr;exact node_ret (r:=w.heap.size) Tryz.results79 (by rfl) (Kr7.out.put5 _ _ _ _ _) (by rfl) ⟨(HB7.out.set5 (.inl (by omega)) _ _ _ _ _),(HP7.out.far5 (by omega) (by omega) _ _ _ _ _),_,rfl,_,_,rfl,rowN_blk (n:=1) (Kks7.out.far5 (by omega) _ _ _ _ _) (NosR.one (nk Nt7 (zr.set5 (iv (by omega)) _ _ _ _ _) (by omega) (by first|omega|simp<;>omega))) rfl (by decide) (⟨by omega,by simp <;> omega⟩)⟩
    ·
     replace hq:=Bool.eq_false_iff.2 hq;replace hr:=take_bind0 hr hq;(try dsimp only at hr);(try rw [if_neg Bool.false_ne_true] at hr);refine (take_no (l:=[⟨#[91]⟩]) HE.out (HP3.out.alloc _) (strs_new (n:=w3.heap.size) [⟨#[91]⟩] (by simp) (by simp)) (old_new (by simp)) hq).mono ?_;rintro e w4 ⟨rfl,hb⟩;have hx:=kxb (E:=E) hb;have hz4:=hx.size;(try simp at hz4);have hw:But (Xs E []) w3 w4:=(zb.alloc _).trans hx xg;have Kr4:=k0 Kr3 hw;have HP4:=zh ((HP3.out.alloc _).below hb);have HB4:=b0 HB3 hw;clear Kr3 HP3 HB3 hw hb hx;(try clear hq);go_wp2_with fail;by_cases hq:oneOf (E.tok i) [⟨#[99,104,97,110]⟩]=true
     ·
      replace hr:=take_bind1 hr hq;(try dsimp only at hr);(try rw [if_pos rfl] at hr);refine (take_yes (l:=[⟨#[99,104,97,110]⟩]) HE.out (HP4.out.alloc _) (strs_new (n:=w4.heap.size) [⟨#[99,104,97,110]⟩] (by simp) (by simp)) (old_new (by simp)) hq).mono ?_;rintro e w5 ⟨rfl,hp,hb⟩;have hx:=xm hb;have hz5:=hx.size;(try simp at hz5);have hw:But (Xs E []) w4 w5:=(zb.alloc _).trans hx xg;have Kr5:=k0 Kr4 hw;have HP5:=zh hp;have HB5:=b0 HB4 hw;clear Kr4 HP4 HB4 hw hb hx hp hq;go_wp2_with fail;obtain ⟨rx,h1,hr⟩:=bind_cases hr;refine (HO.out.typ h1 HP5.out).mono ?_;rintro e w6 hp;rcases rx with p | ⟨x6,i6,b6⟩
      ·
       obtain ⟨hb,rfl⟩:=hp;(try dsimp only at hr);subst hr;(try go_wp2_with fail);exact ⟨rfl,HB5.out.trans hb mg,rfl⟩
      (try dsimp only at hr);obtain ⟨hi6,-,hbb⟩:=(HF.out.typ _ _ (by omega) HP5.out.ilt).2 _ _ h1;dsimp only at hi6 hbb;subst b6;obtain ⟨hb,hp,v,rfl,A6,c6,rfl,hrow⟩:=hp;(try dsimp only at hp hrow);have hz6:=hb.size;(try simp at hz6);have hw:=xs0 hb;have Kr6:=k0 Kr5 hw;have HP6:=zh hp;have HB6:=b0 HB5 hw;clear Kr5 HP5 HB5 hw;have Nt6:=zn (lo:=w5.heap.size) hrow;clear hrow hb hp h1;go_wp2_with fail;refine (made_calls HE.out ((HP6.out.alloc _).alloc _) (by omega)).mono ?_;rintro e w7 ⟨rfl,hb⟩;have hx:=kxb (E:=E) hb;have hz7:=hx.size;(try simp at hz7);have hw:But (Xs E []) w6 w7:=((zb.alloc _).alloc _).trans hx xg;have Kr7:=k0 Kr6 hw;have Kt7:Hid (Blk w7 w6.heap.size 25 #[.int .i64 x6.k,.int .i64 x6.fr,.int .i64 x6.to,.string x6.tx,.slice A6 x6.ks.length c6]):=zh (((Blk.new' (by simp)).alloc _).but hx (ng (by omega)));have Kks7:Hid (Blk w7 (w6.heap.size+1) 25 #[.int .i64 x6.k,.int .i64 x6.fr,.int .i64 x6.to,.string x6.tx,.slice A6 x6.ks.length c6]):=zh ((Blk.new' (by simp)).but hx (ng (by omega)));have Nt7:=n0 Nt6 hw;have HP7:=zh (((HP6.out.alloc _).alloc _).below hb);have HB7:=b0 HB6 hw;clear Kr6 Nt6 HP6 HB6 hw hb hx;obtain ⟨rq0,rq1,rq2,rq3,rq4,rqf,rql⟩:=Kr7.out.cells5;go_wp2_with fail;obtain rfl:=made_end hr;exact node_ret (r:=w.heap.size) Tryz.results79 (by rfl) (Kr7.out.put5 _ _ _ _ _) (by rfl) ⟨(HB7.out.set5 (.inl (by omega)) _ _ _ _ _),(HP7.out.far5 (by omega) (by omega) _ _ _ _ _),_,rfl,_,_,rfl,rowN_blk (n:=1) (Kks7.out.far5 (by omega) _ _ _ _ _) (NosR.one (nk Nt7 (zr.set5 (iv (by omega)) _ _ _ _ _) (by omega) (by first|omega|simp<;>omega))) rfl (by decide) (⟨by omega,by simp <;> omega⟩)⟩
     ·
      replace hq:=Bool.eq_false_iff.2 hq;replace hr:=take_bind0 hr hq;(try dsimp only at hr);(try rw [if_neg Bool.false_ne_true] at hr);refine (take_no (l:=[⟨#[99,104,97,110]⟩]) HE.out (HP4.out.alloc _) (strs_new (n:=w4.heap.size) [⟨#[99,104,97,110]⟩] (by simp) (by simp)) (old_new (by simp)) hq).mono ?_;rintro e w5 ⟨rfl,hb⟩;have hx:=kxb (E:=E) hb;have hz5:=hx.size;(try simp at hz5);have hw:But (Xs E []) w4 w5:=(zb.alloc _).trans hx xg;have Kr5:=k0 Kr4 hw;have HP5:=zh ((HP4.out.alloc _).below hb);have HB5:=b0 HB4 hw;clear Kr4 HP4 HB4 hw hb hx;(try clear hq);go_wp2_with fail;by_cases hq:oneOf (E.tok i) [⟨#[102,117,110,99]⟩]=true
      ·
       replace hr:=take_bind1 hr hq;(try dsimp only at hr);(try rw [if_pos rfl] at hr);refine (take_yes (l:=[⟨#[102,117,110,99]⟩]) HE.out (HP5.out.alloc _) (strs_new (n:=w5.heap.size) [⟨#[102,117,110,99]⟩] (by simp) (by simp)) (old_new (by simp)) hq).mono ?_;rintro e w6 ⟨rfl,hp,hb⟩;have hx:=xm hb;have hz6:=hx.size;(try simp at hz6);have hw:But (Xs E []) w5 w6:=(zb.alloc _).trans hx xg;have Kr6:=k0 Kr5 hw;have HP6:=zh hp;have HB6:=b0 HB5 hw;clear Kr5 HP5 HB5 hw hb hx hp hq;go_wp2_with fail;refine (funcType_calls HE.out HF.out HO.out (by omega) hr HP6.out).mono ?_;rintro e w7 hp;rcases r with p | ⟨x,i2,b2⟩
       ·
        obtain ⟨hb,rfl⟩:=hp;go_wp2_with fail;exact ⟨rfl,HB6.out.trans hb mg,rfl⟩
       obtain ⟨hb,hp,v,rfl,A2,c2,rfl,hrow⟩:=hp;(try dsimp only at hp hrow);have hz7:=hb.size;(try simp at hz7);have hw:=xs0 hb;have Kr7:=k0 Kr6 hw;have HP7:=zh hp;have HB7:=b0 HB6 hw;clear Kr6 HP6 HB6 hw;have Nx7:Hid (RowN w7 (Iv w6.heap.size w7.heap.size) (.slice A2 x.ks.length c2) x.ks):=zh (hrow.keep zr fun k hk=>⟨by have h1:=hk.1;(try simp at h1);omega,hk.2⟩);obtain ⟨rq0,rq1,rq2,rq3,rq4,rqf,rql⟩:=Kr7.out.cells5;go_wp2_with fail;exact node_ret (r:=w.heap.size) Tryz.results79 (by rfl) (Kr7.out.put5 _ _ _ _ _) (by rfl) ⟨(HB7.out.set5 (.inl (by omega)) _ _ _ _ _),(HP7.out.far5 (by omega) (by omega) _ _ _ _ _),_,rfl,_,_,rfl,(rk Nx7 (zr.set5 (iv (by omega)) _ _ _ _ _) (by omega) (by first|omega|simp<;>omega))⟩
      ·
       replace hq:=Bool.eq_false_iff.2 hq;replace hr:=take_bind0 hr hq;(try dsimp only at hr);(try rw [if_neg Bool.false_ne_true] at hr);refine (take_no (l:=[⟨#[102,117,110,99]⟩]) HE.out (HP5.out.alloc _) (strs_new (n:=w5.heap.size) [⟨#[102,117,110,99]⟩] (by simp) (by simp)) (old_new (by simp)) hq).mono ?_;rintro e w6 ⟨rfl,hb⟩;have hx:=kxb (E:=E) hb;have hz6:=hx.size;(try simp at hz6);have hw:But (Xs E []) w5 w6:=(zb.alloc _).trans hx xg;have Kr6:=k0 Kr5 hw;have HP6:=zh ((HP5.out.alloc _).below hb);have HB6:=b0 HB5 hw;clear Kr5 HP5 HB5 hw hb hx;(try clear hq);go_wp2_with fail;by_cases hq:oneOf (E.tok i) [⟨#[115,116,114,117,99,116]⟩]=true
       ·
        replace hr:=take_bind1 hr hq;(try dsimp only at hr);(try rw [if_pos rfl] at hr);refine (take_yes (l:=[⟨#[115,116,114,117,99,116]⟩]) HE.out (HP6.out.alloc _) (strs_new (n:=w6.heap.size) [⟨#[115,116,114,117,99,116]⟩] (by simp) (by simp)) (old_new (by simp)) hq).mono ?_;rintro e w7 ⟨rfl,hp,hb⟩;have hx:=xm hb;have hz7:=hx.size;(try simp at hz7);have hw:But (Xs E []) w6 w7:=(zb.alloc _).trans hx xg;have Kr7:=k0 Kr6 hw;have HP7:=zh hp;have HB7:=b0 HB6 hw;clear Kr6 HP6 HB6 hw hb hx hp hq;go_wp2_with fail;obtain ⟨rx,h1,hr⟩:=bind_cases hr;refine (braced_calls (lo:=lo+1) HE.out (fun pb hpb=>oneQ_of hpb (fun w i b r hi hps hr=>field_calls HE.out HF.out HO.out (by omega) hr hps) (fun j b hj h=>(field_fin HE.out.wt HF.out (by omega) h).less (by omega)) (fun w=>enters_field _ w)) rfl (fun j hj h=>(field_fin HE.out.wt HF.out (by omega) h).less (by omega)) (by omega) h1 HP7.out).mono ?_;rintro e w8 hp;rcases rx with p | ⟨l8,i8,b8⟩
        ·
         obtain ⟨hb,rfl⟩:=hp;(try dsimp only at hr);subst hr;(try go_wp2_with fail);exact ⟨rfl,HB7.out.trans hb mg,rfl⟩
        (try dsimp only at hr);obtain ⟨hi8,-,hbb⟩:=(fin_braced HE.out.wt HP7.out.ilt (fun j hj h=>(field_fin HE.out.wt HF.out (by omega) h).less (by omega))).2 _ _ h1;dsimp only at hi8 hbb;subst b8;obtain ⟨hb,hp,v,rfl,A8,c8,rfl,hrow⟩:=hp;(try dsimp only at hp hrow);have hz8:=hb.size;(try simp at hz8);have hw:=xs0 hb;have Kr8:=k0 Kr7 hw;have HP8:=zh hp;have HB8:=b0 HB7 hw;clear Kr7 HP7 HB7 hw;have Nl8:=zm (lo:=w7.heap.size) hrow;clear hrow hb hp h1;go_wp2_with fail;refine (made_calls HE.out HP8.out (by omega)).mono ?_;rintro e w9 ⟨rfl,hb⟩;have hx:=kxb (E:=E) hb;have hz9:=hx.size;(try simp at hz9);have hw:=xs0 hx;have Kr9:=k0 Kr8 hw;have Nl9:=r0 Nl8 hw;have HP9:=zh (HP8.out.below hb);have HB9:=b0 HB8 hw;clear Kr8 Nl8 HP8 HB8 hw hb hx;obtain ⟨rq0,rq1,rq2,rq3,rq4,rqf,rql⟩:=Kr9.out.cells5;go_wp2_with fail;obtain rfl:=made_end hr;exact node_ret (r:=w.heap.size) Tryz.results79 (by rfl) (Kr9.out.put5 _ _ _ _ _) (by rfl) ⟨(HB9.out.set5 (.inl (by omega)) _ _ _ _ _),(HP9.out.far5 (by omega) (by omega) _ _ _ _ _),_,rfl,_,_,rfl,(rk Nl9 (zr.set5 (iv (by omega)) _ _ _ _ _) (by omega) (by first|omega|simp<;>omega))⟩
       ·
        replace hq:=Bool.eq_false_iff.2 hq;replace hr:=take_bind0 hr hq;(try dsimp only at hr);(try rw [if_neg Bool.false_ne_true] at hr);refine (take_no (l:=[⟨#[115,116,114,117,99,116]⟩]) HE.out (HP6.out.alloc _) (strs_new (n:=w6.heap.size) [⟨#[115,116,114,117,99,116]⟩] (by simp) (by simp)) (old_new (by simp)) hq).mono ?_;rintro e w7 ⟨rfl,hb⟩;have hx:=kxb (E:=E) hb;have hz7:=hx.size;(try simp at hz7);have hw:But (Xs E []) w6 w7:=(zb.alloc _).trans hx xg;have Kr7:=k0 Kr6 hw;have HP7:=zh ((HP6.out.alloc _).below hb);have HB7:=b0 HB6 hw;clear Kr6 HP6 HB6 hw hb hx;(try clear hq);unfold typ6P at hr;go_wp2_with fail;by_cases hq:oneOf (E.tok i) [⟨#[105,110,116,101,114,102,97,99,101]⟩]=true
        ·
         replace hr:=take_bind1 hr hq;(try dsimp only at hr);(try rw [if_pos rfl] at hr);refine (take_yes (l:=[⟨#[105,110,116,101,114,102,97,99,101]⟩]) HE.out (HP7.out.alloc _) (strs_new (n:=w7.heap.size) [⟨#[105,110,116,101,114,102,97,99,101]⟩] (by simp) (by simp)) (old_new (by simp)) hq).mono ?_;rintro e w8 ⟨rfl,hp,hb⟩;have hx:=xm hb;have hz8:=hx.size;(try simp at hz8);have hw:But (Xs E []) w7 w8:=(zb.alloc _).trans hx xg;have Kr8:=k0 Kr7 hw;have HP8:=zh hp;have HB8:=b0 HB7 hw;clear Kr7 HP7 HB7 hw hb hx hp hq;go_wp2_with fail;obtain ⟨rx,h1,hr⟩:=bind_cases hr;refine (braced_calls (lo:=lo+1) HE.out (fun pb hpb=>oneQ_of hpb (fun w i b r hi hps hr=>element_calls HE.out HF.out HO.out (by omega) hr hps) (fun j b hj h=>(element_fin HE.out.wt HF.out (by omega) h).less (by omega)) (fun w=>enters_element _ w)) rfl (fun j hj h=>(element_fin HE.out.wt HF.out (by omega) h).less (by omega)) (by omega) h1 HP8.out).mono ?_;rintro e w9 hp;rcases rx with p | ⟨l9,i9,b9⟩
         ·
          obtain ⟨hb,rfl⟩:=hp;(try dsimp only at hr);subst hr;(try go_wp2_with fail);exact ⟨rfl,HB8.out.trans hb mg,rfl⟩
         (try dsimp only at hr);obtain ⟨hi9,-,hbb⟩:=(fin_braced HE.out.wt HP8.out.ilt (fun j hj h=>(element_fin HE.out.wt HF.out (by omega) h).less (by omega))).2 _ _ h1;dsimp only at hi9 hbb;subst b9;obtain ⟨hb,hp,v,rfl,A9,c9,rfl,hrow⟩:=hp;(try dsimp only at hp hrow);have hz9:=hb.size;(try simp at hz9);have hw:=xs0 hb;have Kr9:=k0 Kr8 hw;have HP9:=zh hp;have HB9:=b0 HB8 hw;clear Kr8 HP8 HB8 hw;have Nl9:=zm (lo:=w8.heap.size) hrow;clear hrow hb hp h1;go_wp2_with fail;refine (made_calls HE.out HP9.out (by omega)).mono ?_;rintro e w10 ⟨rfl,hb⟩;have hx:=kxb (E:=E) hb;have hz10:=hx.size;(try simp at hz10);have hw:=xs0 hx;have Kr10:=k0 Kr9 hw;have Nl10:=r0 Nl9 hw;have HP10:=zh (HP9.out.below hb);have HB10:=b0 HB9 hw;clear Kr9 Nl9 HP9 HB9 hw hb hx;obtain ⟨rq0,rq1,rq2,rq3,rq4,rqf,rql⟩:=Kr10.out.cells5;go_wp2_with fail;obtain rfl:=made_end hr;exact node_ret (r:=w.heap.size) Tryz.results79 (by rfl) (Kr10.out.put5 _ _ _ _ _) (by rfl) ⟨(HB10.out.set5 (.inl (by omega)) _ _ _ _ _),(HP10.out.far5 (by omega) (by omega) _ _ _ _ _),_,rfl,_,_,rfl,(rk Nl10 (zr.set5 (iv (by omega)) _ _ _ _ _) (by omega) (by first|omega|simp<;>omega))⟩
        ·
         replace hq:=Bool.eq_false_iff.2 hq;replace hr:=take_bind0 hr hq;(try dsimp only at hr);(try rw [if_neg Bool.false_ne_true] at hr);refine (take_no (l:=[⟨#[105,110,116,101,114,102,97,99,101]⟩]) HE.out (HP7.out.alloc _) (strs_new (n:=w7.heap.size) [⟨#[105,110,116,101,114,102,97,99,101]⟩] (by simp) (by simp)) (old_new (by simp)) hq).mono ?_;rintro e w8 ⟨rfl,hb⟩;have hx:=kxb (E:=E) hb;have hz8:=hx.size;(try simp at hz8);have hw:But (Xs E []) w7 w8:=(zb.alloc _).trans hx xg;have Kr8:=k0 Kr7 hw;have HP8:=zh ((HP7.out.alloc _).below hb);have HB8:=b0 HB7 hw;clear Kr7 HP7 HB7 hw hb hx;(try clear hq);go_wp2_with fail;by_cases hq:oneOf (E.tok i) [⟨#[40]⟩]=true
         ·
          replace hr:=take_bind1 hr hq;(try dsimp only at hr);(try rw [if_pos rfl] at hr);refine (take_yes (l:=[⟨#[40]⟩]) HE.out (HP8.out.alloc _) (strs_new (n:=w8.heap.size) [⟨#[40]⟩] (by simp) (by simp)) (old_new (by simp)) hq).mono ?_;rintro e w9 ⟨rfl,hp,hb⟩;have hx:=xm hb;have hz9:=hx.size;(try simp at hz9);have hw:But (Xs E []) w8 w9:=(zb.alloc _).trans hx xg;have Kr9:=k0 Kr8 hw;have HP9:=zh hp;have HB9:=b0 HB8 hw;clear Kr8 HP8 HB8 hw hb hx hp hq;go_wp2_with fail;obtain ⟨rx,h1,hr⟩:=bind_cases hr;refine (HO.out.typ h1 HP9.out).mono ?_;rintro e w10 hp;rcases rx with p | ⟨x10,i10,b10⟩
          ·
           obtain ⟨hb,rfl⟩:=hp;(try dsimp only at hr);subst hr;(try go_wp2_with fail);exact ⟨rfl,HB9.out.trans hb mg,rfl⟩
          (try dsimp only at hr);obtain ⟨hi10,-,hbb⟩:=(HF.out.typ _ _ (by omega) HP9.out.ilt).2 _ _ h1;dsimp only at hi10 hbb;subst b10;obtain ⟨hb,hp,v,rfl,A10,c10,rfl,hrow⟩:=hp;(try dsimp only at hp hrow);have hz10:=hb.size;(try simp at hz10);have hw:=xs0 hb;have Kr10:=k0 Kr9 hw;have HP10:=zh hp;have HB10:=b0 HB9 hw;clear Kr9 HP9 HB9 hw;have Nt10:=zn (lo:=w9.heap.size) hrow;clear hrow hb hp h1;go_wp2_with fail;by_cases hq:oneOf (E.tok i10) [⟨#[41]⟩]=true
          case neg=>
           replace hq:=Bool.eq_false_iff.2 hq;replace hr:=need_bind0 hr hq;subst hr;refine (need_no (x:=⟨#[41]⟩) HE.out (HP10.out.alloc _) hq).mono ?_;rintro e wz ⟨rfl,hb⟩;go_wp2_with fail;exact ⟨rfl,(HB10.out.alloc _).then_ hb,rfl⟩
          case pos=>
           replace hr:=need_bind1 hr hq;(try dsimp only at hr);refine (need_yes (x:=⟨#[41]⟩) HE.out (HP10.out.alloc _) hq).mono ?_;rintro e w11 ⟨rfl,hp,hb⟩;simp only [tokV];have hx:=xm hb;have hz11:=hx.size;(try simp at hz11);have hw:But (Xs E []) w10 w11:=(zb.alloc _).trans hx xg;have Kr11:=k0 Kr10 hw;have Kt11:Hid (Blk w11 w10.heap.size 25 #[.int .i64 x10.k,.int .i64 x10.fr,.int .i64 x10.to,.string x10.tx,.slice A10 x10.ks.length c10]):=zh ((Blk.new' (by simp)).but hx (ng (by omega)));have Nt11:=n0 Nt10 hw;have HP11:=zh hp;have HB11:=b0 HB10 hw;clear Kr10 Nt10 HP10 HB10 hw hb hx hp hq;obtain ⟨tq0,tq1,tq2,tq3,tq4,tqf,tql⟩:=Kt11.out.cells5;go_wp2_with fail;refine (made_calls HE.out (HP11.out.alloc _) (by omega)).mono ?_;rintro e w12 ⟨rfl,hb⟩;have hx:=kxb (E:=E) hb;have hz12:=hx.size;(try simp at hz12);have hw:But (Xs E []) w11 w12:=(zb.alloc _).trans hx xg;have Kr12:=k0 Kr11 hw;have Kt12:=k0 Kt11 hw;have Kks12:Hid (Blk w12 w11.heap.size 25 #[.int .i64 x10.k,.int .i64 x10.fr,.int .i64 x10.to,.string x10.tx,.slice A10 x10.ks.length c10]):=zh ((Blk.new' (by simp)).but hx (ng (by omega)));have Nt12:=n0 Nt11 hw;have HP12:=zh ((HP11.out.alloc _).below hb);have HB12:=b0 HB11 hw;clear tq0 tq1 tq2 tq3 tq4 tqf tql Kr11 Kt11 Nt11 HP11 HB11 hw hb hx;obtain ⟨rq0,rq1,rq2,rq3,rq4,rqf,rql⟩:=Kr12.out.cells5;go_wp2_with fail;obtain rfl:=made_end hr;exact node_ret (r:=w.heap.size) Tryz.results79 (by rfl) (Kr12.out.put5 _ _ _ _ _) (by rfl) ⟨(HB12.out.set5 (.inl (by omega)) _ _ _ _ _),(HP12.out.far5 (by omega) (by omega) _ _ _ _ _),_,rfl,_,_,rfl,rowN_blk (n:=1) (Kks12.out.far5 (by omega) _ _ _ _ _) (NosR.one (nk Nt12 (zr.set5 (iv (by omega)) _ _ _ _ _) (by omega) (by first|omega|simp<;>omega))) rfl (by decide) (⟨by omega,by simp <;> omega⟩)⟩
         ·
          replace hq:=Bool.eq_false_iff.2 hq;replace hr:=take_bind0 hr hq;(try dsimp only at hr);(try rw [if_neg Bool.false_ne_true] at hr);refine (take_no (l:=[⟨#[40]⟩]) HE.out (HP8.out.alloc _) (strs_new (n:=w8.heap.size) [⟨#[40]⟩] (by simp) (by simp)) (old_new (by simp)) hq).mono ?_;rintro e w9 ⟨rfl,hb⟩;have hx:=kxb (E:=E) hb;have hz9:=hx.size;(try simp at hz9);have hw:But (Xs E []) w8 w9:=(zb.alloc _).trans hx xg;have Kr9:=k0 Kr8 hw;have HP9:=zh ((HP8.out.alloc _).below hb);have HB9:=b0 HB8 hw;clear Kr8 HP8 HB8 hw hb hx hq;go_wp2_with fail;replace hr:=bad_end hr;refine (bad_calls HE.out HP9.out).mono ?_;rintro e wz ⟨rfl,hb⟩;subst hr;go_wp2_with fail;exact ⟨rfl,HB9.out.then_ hb,rfl⟩
end
set_option maxRecDepth 100000
set_option maxHeartbeats 4000000
section
variable {E:Env} {G:Gr} {lo:Nat} {w:World} {i:Nat} {b:Bool}
theorem flag_cases {α:Type} {q:Bool} {x:PM α} {r:Except Int (α×Ps)} (h:flagP q x (i,b)=some r):∃ rx,x (i,q)=some rx∧r=match rx with
    | .error p=>.error p
    | .ok (a,s')=>.ok (a,(s'.1,b)):=by
  unfold flagP at h;cases hx:x (i,q) with
  | none=>simp only [hx] at h;cases h
  | some rx=>
    simp only [hx] at h;refine ⟨rx,rfl,?_⟩;cases rx with
    | error p=>exact (Option.some.inj h).symm
    | ok aa=>exact (Option.some.inj h).symm
theorem within_calls (h:PS E w i b) {n:Nat} {first cap args:Array Value} (ha:first ++ cap=args) (hent:∀ w,(callFunc n args).run Tryz.prog w = .ok (.enter n args) w) {R1 R:Ending→World→Prop}
    (hc:Calls Tryz.prog n args (w.setCell ⟨E.g,2,none⟩ (.bool false)) R1) (hR:∀ e w2,R1 e w2→(∃ c,e = .panicked c∧R e w2)∨(e = .returned (.tuple #[])∧∃ j c,PS E w2 j c∧R (.returned (.tuple #[])) (w2.setCell ⟨E.g,2,none⟩ (.bool b)))) :
    Calls Tryz.prog 117 #[(.pointer (some ⟨E.g,0,none⟩)),.func (.func n) first cap] w R:=by
  subst ha;obtain ⟨q0,q1,q2,qf,ql⟩:=h.cells;have HR:=zh hR;have HC:=zh hc;clear hR hc h q0 q1;go_enter Tryz.func117,Tryz.ntmps117;go_wp2_with fail;refine HC.out.mono ?_;intro e w2 he;rcases HR.out e w2 he with ⟨c,rfl,hr⟩ | ⟨rfl,j,c,hp,hr⟩
  · go_wp2_with fail
    exact ⟨rfl,hr⟩
  · obtain ⟨z0,z1,z2,zf,zl⟩:=hp.cells
    have HH:=zh hr;clear hr hp he;go_wp2_with fail
    go_end0
    exact HH.out
theorem enters_stmt (args:Array Value) (w:World):(callFunc 138 args).run Tryz.prog w = .ok (.enter 138 args) w:=by kernel_rfl
theorem block_calls (hE:EOk E) (hF:GF E.ts G lo) (hO:OkG E G) (hlo:lo≤i) {r:Except Int (No×Ps)} (hr:blockP E.ts G (i,b)=some r) (h:PS E w i b):Calls Tryz.prog 99 #[(.pointer (some ⟨E.g,0,none⟩))] w (Post E noX w (NoV w) r):=by
  have hga:=h.glt;have haa:=h.lt;have hln:=hE.len;have hil:=h.ilt;have HP:=zh h;have HE:=zh hE;have HB0:Hid (But (fun k=>gX E k) w w):=zh zb;have HF:=zh hF;have HO:=zh hO;clear hF hO;clear h hE;have hf0:=tfield0;have hf1:=tfield1;have hf2:=tfield2;have hf3:=tfield3;go_enter Tryz.func99,Tryz.ntmps99;unfold blockP at hr;replace hr:=from_bind hr;(try dsimp only at hr);go_wp2_with fail;refine (from_calls HE.out (HP.out.alloc _)).mono ?_;rintro e w1 ⟨rfl,hb⟩;have hx:=kxb (E:=E) hb;have hz1:=hx.size;(try simp at hz1);have hw:But (Xs E []) w w1:=(zb.alloc _).trans hx xg;have Kr1:Hid (Blk w1 w.heap.size 25 #[.int .i64 0,.int .i64 0,.int .i64 0,.string ⟨#[]⟩,.slice none 0 0]):=zh ((Blk.new' (by simp)).but hx (ng (by omega)));have HP1:=zh ((HP.out.alloc _).below hb);have HB1:=b0 HB0 hw;clear hw hb hx;obtain ⟨ry,h0,hr⟩:=bind_cases hr;obtain ⟨rz,hz,rfl⟩:=flag_cases h0;clear h0;obtain ⟨gq0,gq1,gq2,gqf,gql⟩:=HP1.out.cells;go_wp2_with fail;refine (braced_calls (lo:=i+1) HE.out (fun pb hpb=>oneQ_of hpb (fun w i2 b r hi hps hr=>HO.out.stmt hr hps (by omega)) (fun j b hj h=>HF.out.stmt _ _ (by omega) h) (fun w=>enters_stmt _ w)) rfl (fun j hj h=>HF.out.stmt _ _ (by omega) h) (by omega) hz (HP1.out.set2 false)).mono ?_;rintro e w2 hp;rcases rz with p | ⟨l2,i2,b2⟩
  ·
   obtain ⟨hb,rfl⟩:=hp;dsimp only at hr;subst hr;go_wp2_with fail;exact ⟨rfl,(HB1.out.set_ (p:=⟨E.g,2,none⟩) (.inr (.inl rfl)) _).trans hb mg,rfl⟩
  have hfin:=(fin_braced (ts:=E.ts) (one:=G.stmt) (i:=i) (b:=false) HE.out.wt hil (fun j hj h=>HF.out.stmt _ _ (by omega) h)).2 _ _ hz;dsimp only at hfin hr;obtain ⟨hi2,-,hbb⟩:=hfin;subst b2;obtain ⟨hb,hp,v,rfl,A2,c2,rfl,hrow⟩:=hp;(try dsimp only at hp hrow);have hz2:=hb.size;(try simp at hz2);have hw:But (Xs E []) w1 w2:=(zb.set_ (p:=⟨E.g,2,none⟩) (.inr (.inl rfl)) _).trans hb xg;have Kr2:=k0 Kr1 hw;have HP2:=zh hp;have HB2:=b0 HB1 hw;clear gq0 gq1 gq2 gqf gql Kr1 HP1 HB1 hw;have Nl2:=zm (lo:=w1.heap.size) hrow;clear hrow hb hp hz;obtain ⟨gq0,gq1,gq2,gqf,gql⟩:=HP2.out.cells;go_wp2_with fail;refine (made_calls HE.out (HP2.out.set2 b) (by omega)).mono ?_;rintro e w3 ⟨rfl,hb⟩;have hx:=kxb (E:=E) hb;have hz3:=hx.size;(try simp at hz3);have hw:But (Xs E []) w2 w3:=(zb.set_ (p:=⟨E.g,2,none⟩) (.inr (.inl rfl)) _).trans hx xg;have Kr3:=k0 Kr2 hw;have Nl3:=r0 Nl2 hw;have HP3:=zh ((HP2.out.set2 b).below hb);have HB3:=b0 HB2 hw;clear gq0 gq1 gq2 gqf gql Kr2 Nl2 HP2 HB2 hw hb hx;obtain ⟨rq0,rq1,rq2,rq3,rq4,rqf,rql⟩:=Kr3.out.cells5;go_wp2_with fail;obtain rfl:=made_end hr;exact node_ret (r:=w.heap.size) Tryz.results99 (by rfl) (Kr3.out.put5 _ _ _ _ _) (by rfl) ⟨(HB3.out.set5 (.inl (by omega)) _ _ _ _ _),(HP3.out.far5 (by omega) (by omega) _ _ _ _ _),_,rfl,_,_,rfl,(rk Nl3 (zr.set5 (iv (by omega)) _ _ _ _ _) (by omega) (by first|omega|simp<;>omega))⟩
theorem compOne_calls (hE:EOk E) (hF:GF E.ts G lo) (hO:OkG E G) {pb:Nat} (hpg:pb≠E.g) (hpa:pb≠E.a) {u_:Unit} {r:Except Int ((No×Unit)×Ps)} (hr:compOne E.ts G u_ (i,b)=some r) (h:PS E w i b) (hi:lo<i)
    (hp:Blk w pb 49 #[(.pointer (some ⟨E.g,0,none⟩))]) :
    Calls Tryz.prog 154 #[.pointer (some ⟨pb,0,none⟩)] w (Post E (fun k=>k=pb) w (fun w' x v=>NoV w w' x.1 v∧Blk w' pb 49 #[(.pointer (some ⟨E.g,0,none⟩))]) r):=by
  have hga:=h.glt;have haa:=h.lt;have hln:=hE.len;have hil:=h.ilt;have hpl:=hp.lt;have HP:=zh h;have HE:=zh hE;have HF:=zh hF;have HO:=zh hO;have Kp0:=zh hp;have HB0:Hid (But (fun k=>k=E.g∨(k=pb)) w w):=zh zb;clear h hE hF hO hp;go_enter Tryz.func154,Tryz.ntmps154;unfold compOne at hr;replace hr:=now_bind hr;(try dsimp only at hr);replace hr:=ahead_bind hr;(try dsimp only at hr);have pq0:=Kp0.out.cell 0;simp at pq0;have pqf:=Kp0.out.frozen;have pql:=Kp0.out.lt;go_wp2_with fail;refine (named_calls HE.out (HP.out.alloc _)).mono ?_;rintro e w1 ⟨rfl,hb⟩;have hx:=kxb (E:=E) hb;have hz1:=hx.size;(try simp at hz1);have hw:But (Xs E []) w w1:=(zb.alloc _).trans hx xg;have Kp1:=k0 Kp0 hw;have Kr1:Hid (Blk w1 w.heap.size 25 #[.int .i64 0,.int .i64 0,.int .i64 0,.string ⟨#[]⟩,.slice none 0 0]):=zh ((Blk.new' (by simp)).but hx (ng (by omega)));have HP1:=zh ((HP.out.alloc _).below hb);have HB1:=b0 HB0 hw;clear pq0 pqf pql Kp0 hw hb hx;by_cases hk:(E.tok i).k=1
  ·
   rw [show decide ((E.tok i).k=1)=true from decide_eq_true hk];have pq0:=Kp1.out.cell 0;simp at pq0;have pqf:=Kp1.out.frozen;have pql:=Kp1.out.lt;go_wp2_with fail;refine (ahead_calls (n:=1) HE.out HP1.out (by omega)).mono ?_;rintro e w2 ⟨rfl,hb⟩;have hx:=kxb (E:=E) hb;have hz2:=hx.size;(try simp at hz2);have hw:=xs0 hx;have Kp2:=k0 Kp1 hw;have Kr2:=k0 Kr1 hw;have HP2:=zh (HP1.out.below hb);have HB2:=b0 HB1 hw;clear pq0 pqf pql Kp1 Kr1 HP1 HB1 hw hb hx;go_wp2_with fail;refine (sort_calls (t:=(E.tok (min (i+1) (E.ts.length - 1)))) (l:=[⟨#[58]⟩]) (strs_new (n:=w2.heap.size) [⟨#[58]⟩] (by simp) (by simp)) (old_new (by simp))).mono ?_;rintro e w3 ⟨rfl,hb⟩;have hx:=kxb (E:=E) hb;have hz3:=hx.size;(try simp at hz3);have hw:But (Xs E []) w2 w3:=(zb.alloc _).trans hx xg;have Kp3:=k0 Kp2 hw;have Kr3:=k0 Kr2 hw;have HP3:=zh ((HP2.out.alloc _).below hb);have HB3:=b0 HB2 hw;clear Kp2 Kr2 HP2 HB2 hw hb hx;by_cases hq:oneOf (E.tok (min (i+1) (E.ts.length - 1))) [⟨#[58]⟩]=true
   ·
    rw [if_pos ⟨hk,hq⟩] at hr;rw [hq];clear hq hk;have pq0:=Kp3.out.cell 0;simp at pq0;have pqf:=Kp3.out.frozen;have pql:=Kp3.out.lt;go_wp2_with fail;by_cases hq:(E.tok i).k=1
    case neg=>
     replace hr:=name_bind0 hr hq;subst hr;refine (name_no HE.out HP3.out hq).mono ?_;rintro e wz ⟨rfl,hb⟩;go_wp2_with fail;exact ⟨rfl,HB3.out.then_ hb,rfl⟩
    case pos=>
     replace hr:=name_bind1 hr hq;(try dsimp only at hr);refine (name_yes HE.out HP3.out hq).mono ?_;rintro e w4 ⟨rfl,hp,hb⟩;have hx:=xm hb;have hz4:=hx.size;(try simp at hz4);have hw:=xs0 hx;have Kp4:=k0 Kp3 hw;have Kr4:=k0 Kr3 hw;have HP4:=zh hp;have HB4:=b0 HB3 hw;clear pq0 pqf pql Kp3 Kr3 HP3 HB3 hw hb hx hp;have Nn4:=nN w4 (E.tok i);clear hq;have pq0:=Kp4.out.cell 0;simp at pq0;have pqf:=Kp4.out.frozen;have pql:=Kp4.out.lt;go_wp2_with fail;by_cases hq:oneOf (E.tok (i+1)) [⟨#[58]⟩]=true
     case neg=>
      replace hq:=Bool.eq_false_iff.2 hq;replace hr:=need_bind0 hr hq;subst hr;refine (need_no (x:=⟨#[58]⟩) HE.out (HP4.out.alloc _) hq).mono ?_;rintro e wz ⟨rfl,hb⟩;go_wp2_with fail;exact ⟨rfl,(HB4.out.alloc _).then_ hb,rfl⟩
     case pos=>
      replace hr:=need_bind1 hr hq;(try dsimp only at hr);refine (need_yes (x:=⟨#[58]⟩) HE.out (HP4.out.alloc _) hq).mono ?_;rintro e w5 ⟨rfl,hp,hb⟩;simp only [tokV];have hx:=xm hb;have hz5:=hx.size;(try simp at hz5);have hw:But (Xs E []) w4 w5:=(zb.alloc _).trans hx xg;have Kp5:=k0 Kp4 hw;have Kr5:=k0 Kr4 hw;have Kn5:Hid (Blk w5 w4.heap.size 25 #[.int .i64 40,.int .i64 (E.tok i).fr,.int .i64 (E.tok i).to,.string (E.tok i).tx,.slice none 0 0]):=zh ((Blk.new' (by simp)).but hx (ng (by omega)));have Nn5:=n0 Nn4 hw;have HP5:=zh hp;have HB5:=b0 HB4 hw;clear pq0 pqf pql Kp4 Kr4 Nn4 HP4 HB4 hw hb hx hp hq;have pq0:=Kp5.out.cell 0;simp at pq0;have pqf:=Kp5.out.frozen;have pql:=Kp5.out.lt;go_wp2_with fail;obtain ⟨rx,h1,hr⟩:=bind_cases hr;refine (HO.out.expr h1 HP5.out).mono ?_;rintro e w6 hp;rcases rx with p | ⟨x6,i6,b6⟩
      ·
       obtain ⟨hb,rfl⟩:=hp;(try dsimp only at hr);subst hr;(try go_wp2_with fail);exact ⟨rfl,HB5.out.trans hb mg,rfl⟩
      (try dsimp only at hr);obtain ⟨hi6,-,hbb⟩:=(HF.out.expr _ _ (by omega) HP5.out.ilt).2 _ _ h1;dsimp only at hi6 hbb;subst b6;obtain ⟨hb,hp,v,rfl,A6,c6,rfl,hrow⟩:=hp;(try dsimp only at hp hrow);have hz6:=hb.size;(try simp at hz6);have hw:=xs0 hb;have Kp6:=k0 Kp5 hw;have Kr6:=k0 Kr5 hw;have Kn6:=k0 Kn5 hw;have Nn6:=n0 Nn5 hw;have HP6:=zh hp;have HB6:=b0 HB5 hw;clear pq0 pqf pql Kp5 Kr5 Kn5 Nn5 HP5 HB5 hw;have Nx6:=zn (lo:=w5.heap.size) hrow;clear hrow hb hp h1;have pq0:=Kp6.out.cell 0;simp at pq0;have pqf:=Kp6.out.frozen;have pql:=Kp6.out.lt;obtain ⟨nq0,nq1,nq2,nq3,nq4,nqf,nql⟩:=Kn6.out.cells5;go_wp2_with fail;refine (made_calls HE.out ((HP6.out.alloc _).alloc _) (by omega)).mono ?_;rintro e w7 ⟨rfl,hb⟩;have hx:=kxb (E:=E) hb;have hz7:=hx.size;(try simp at hz7);have hw:But (Xs E []) w6 w7:=((zb.alloc _).alloc _).trans hx xg;have Kp7:=k0 Kp6 hw;have Kr7:=k0 Kr6 hw;have Kn7:=k0 Kn6 hw;have Kx7:Hid (Blk w7 w6.heap.size 25 #[.int .i64 x6.k,.int .i64 x6.fr,.int .i64 x6.to,.string x6.tx,.slice A6 x6.ks.length c6]):=zh (((Blk.new' (by simp)).alloc _).but hx (ng (by omega)));have Kks7:Hid (Blk w7 (w6.heap.size+1) 25 #[.int .i64 40,.int .i64 (E.tok i).fr,.int .i64 (E.tok i).to,.string (E.tok i).tx,.slice none 0 0,.int .i64 x6.k,.int .i64 x6.fr,.int .i64 x6.to,.string x6.tx,.slice A6 x6.ks.length c6]):=zh ((Blk.new' (by simp)).but hx (ng (by omega)));have Nn7:=n0 Nn6 hw;have Nx7:=n0 Nx6 hw;have HP7:=zh (((HP6.out.alloc _).alloc _).below hb);have HB7:=b0 HB6 hw;clear pq0 pqf pql nq0 nq1 nq2 nq3 nq4 nqf nql Kp6 Kr6 Kn6 Nn6 Nx6 HP6 HB6 hw hb hx;obtain ⟨rq0,rq1,rq2,rq3,rq4,rqf,rql⟩:=Kr7.out.cells5;go_wp2_with fail;replace hr:=made_bind hr;(try dsimp only at hr);obtain rfl:=pure_end hr
      exact node_ret (r:=w.heap.size) Tryz.results154 (by rfl) (Kr7.out.put5 _ _ _ _ _) (by rfl) ⟨(HB7.out.set5 (.inl (by omega)) _ _ _ _ _),(HP7.out.far5 (by omega) (by omega) _ _ _ _ _),_,rfl,⟨⟨_,_,rfl,rowN_blk (n:=2) (Kks7.out.far5 (by omega) _ _ _ _ _) (NosR.cons_ (nk Nn7 (zr.set5 (iv (by omega)) _ _ _ _ _) (by omega) (by first|omega|simp<;>omega)) (NosR.one (nk Nx7 (zr.set5 (iv (by omega)) _ _ _ _ _) (by omega) (by first|omega|simp<;>omega)))) rfl (by decide) (⟨by omega,by simp <;> omega⟩)⟩,(Kp7.out.far5 (by omega) _ _ _ _ _)⟩⟩
   ·
    rw [if_neg (fun e=>hq e.2)] at hr;rw [Bool.eq_false_iff.2 hq];clear hq hk;have pq0:=Kp3.out.cell 0;simp at pq0;have pqf:=Kp3.out.frozen;have pql:=Kp3.out.lt;go_wp2_with fail;obtain ⟨rx,h1,hr⟩:=bind_cases hr;refine (HO.out.expr h1 HP3.out).mono ?_;rintro e w4 hp;rcases rx with p | ⟨x4,i4,b4⟩
    ·
     obtain ⟨hb,rfl⟩:=hp;(try dsimp only at hr);subst hr;(try go_wp2_with fail);exact ⟨rfl,HB3.out.trans hb mg,rfl⟩
    (try dsimp only at hr);obtain ⟨hi4,-,hbb⟩:=(HF.out.expr _ _ (by omega) HP3.out.ilt).2 _ _ h1;dsimp only at hi4 hbb;subst b4;obtain ⟨hb,hp,v,rfl,A4,c4,rfl,hrow⟩:=hp;(try dsimp only at hp hrow);have hz4:=hb.size;(try simp at hz4);have hw:=xs0 hb;have Kp4:=k0 Kp3 hw;have Kr4:=k0 Kr3 hw;have HP4:=zh hp;have HB4:=b0 HB3 hw;clear pq0 pqf pql Kp3 Kr3 HP3 HB3 hw;have Nx4:=zn (lo:=w3.heap.size) hrow;clear hrow hb hp h1;obtain ⟨rq0,rq1,rq2,rq3,rq4,rqf,rql⟩:=Kr4.out.cells5;go_wp2_with fail;obtain rfl:=pure_end hr;exact node_ret (r:=w.heap.size) Tryz.results154 (by rfl) (Kr4.out.put5 _ _ _ _ _) (by rfl) ⟨(HB4.out.set5 (.inl (by omega)) _ _ _ _ _),(HP4.out.far5 (by omega) (by omega) _ _ _ _ _),_,rfl,⟨⟨_,_,rfl,(nk Nx4 (zr.set5 (iv (by omega)) _ _ _ _ _) (by omega) (by first|omega|simp<;>omega)).row_⟩,(Kp4.out.far5 (by omega) _ _ _ _ _)⟩⟩
  ·
   rw [if_neg (fun e=>hk e.1)] at hr;rw [show decide ((E.tok i).k=1)=false from decide_eq_false hk];clear hk;have pq0:=Kp1.out.cell 0;simp at pq0;have pqf:=Kp1.out.frozen;have pql:=Kp1.out.lt;go_wp2_with fail;obtain ⟨rx,h1,hr⟩:=bind_cases hr;refine (HO.out.expr h1 HP1.out).mono ?_;rintro e w2 hp;rcases rx with p | ⟨x2,i2,b2⟩
   ·
    obtain ⟨hb,rfl⟩:=hp;(try dsimp only at hr);subst hr;(try go_wp2_with fail);exact ⟨rfl,HB1.out.trans hb mg,rfl⟩
   (try dsimp only at hr);obtain ⟨hi2,-,hbb⟩:=(HF.out.expr _ _ (by omega) HP1.out.ilt).2 _ _ h1;dsimp only at hi2 hbb;subst b2;obtain ⟨hb,hp,v,rfl,A2,c2,rfl,hrow⟩:=hp;(try dsimp only at hp hrow);have hz2:=hb.size;(try simp at hz2);have hw:=xs0 hb;have Kp2:=k0 Kp1 hw;have Kr2:=k0 Kr1 hw;have HP2:=zh hp;have HB2:=b0 HB1 hw;clear pq0 pqf pql Kp1 Kr1 HP1 HB1 hw;have Nx2:=zn (lo:=w1.heap.size) hrow;clear hrow hb hp h1;obtain ⟨rq0,rq1,rq2,rq3,rq4,rqf,rql⟩:=Kr2.out.cells5;go_wp2_with fail;obtain rfl:=pure_end hr;exact node_ret (r:=w.heap.size) Tryz.results154 (by rfl) (Kr2.out.put5 _ _ _ _ _) (by rfl) ⟨(HB2.out.set5 (.inl (by omega)) _ _ _ _ _),(HP2.out.far5 (by omega) (by omega) _ _ _ _ _),_,rfl,⟨⟨_,_,rfl,(nk Nx2 (zr.set5 (iv (by omega)) _ _ _ _ _) (by omega) (by first|omega|simp<;>omega)).row_⟩,(Kp2.out.far5 (by omega) _ _ _ _ _)⟩⟩
theorem enters_compOne (args:Array Value) (w:World):(callFunc 154 args).run Tryz.prog w = .ok (.enter 154 args) w:=by kernel_rfl
theorem compOne_one (hE:EOk E) (hF:GF E.ts G lo) (hO:OkG E G) {pb:Nat} (hpg:pb≠E.g) (hpa:pb≠E.a) :
    One E (fun k=>k=pb) (fun _ w=>Blk w pb 49 #[(.pointer (some ⟨E.g,0,none⟩))]) (compOne E.ts G) 154 #[.pointer (some ⟨pb,0,none⟩)] (lo+1) where
  call _ _ _ _ _ hlo hps hI hr:=compOne_calls hE hF hO hpg hpa hr hps hlo hI
  fine u _ _ hlo hi:=compOne_fin hE.wt hF hlo hi u
  same _ _ _ h k:=(k pb rfl).trans h
  notg e:=hpg e.symm
  ent w:=enters_compOne _ w
end
set_option maxRecDepth 100000
set_option maxHeartbeats 4000000
section
variable {E:Env} {G:Gr} {lo:Nat} {w:World} {i:Nat} {b:Bool}
theorem PS.drew (h:PS E w i b):PS E w.drew i b:=⟨h.blk,h.tok,h.ne,h.lt,h.ilt⟩
theorem But.undrew {X:Nat→Prop} {w':World} (h:But X w.drew w'):But X w w':=⟨h.os,h.tape,h.output,h.size,h.block⟩
theorem nos_one {S:Nat→Prop}:∀ {ks:List No} {xs:List Value},NosR w S ks xs→∀ u ∈ xs,u.oneCell'=true
  | [],xs,h=>by simp only [NosR] at h;subst h;simp
  | t :: ts,xs,h=>by
    simp only [NosR] at h;obtain ⟨c1,c2,rfl,a,d⟩:=h;intro u hu;rcases List.mem_append.1 hu with hu | hu
    · obtain ⟨A,c,rfl,-⟩:=a.forms
      exact one5 u hu
    · exact nos_one d u hu
def AppPost {σ:Type} (E:Env) (X:Nat→Prop) (I:σ→World→Prop) (w:World) (lb base n c:Nat) (B:Option Addr) (xs:List Value) (r:Except Int ((List No×σ)×Ps)) (e:Ending) (w':World):Prop:=
  But (fun k=>k=E.g∨X k∨k=lb∨(Value.slice B n c).ownBlock=some k) w w'∧match r with
  | .error p=>e = .panicked (badC p)
  | .ok a=>e = .returned (.tuple #[])∧PS E w' a.2.1 a.2.2∧I a.1.2 w'∧a.1.1.length≤1000000∧
    ∃ B' c' xs2,Blk w' lb 23 #[.slice B' (n+a.1.1.length) c']∧w'.ownsRow base 25 5 (.slice B' (n+a.1.1.length) c') (n+a.1.1.length) (xs ++ xs2)∧NosR w' (New w w') a.1.1 xs2∧
      ((Value.slice B' (n+a.1.1.length) c').ownBlock=(Value.slice B n c).ownBlock∨∃ k,(Value.slice B' (n+a.1.1.length) c').ownBlock=some k∧w.heap.size≤k∧k<w'.heap.size)
theorem app_end {σ:Type} {X:Nat→Prop} {I:σ→World→Prop} {lb base n c i2 c3:Nat} {b2:Bool} {B B3:Option Addr} {xs xs2:List Value} {w2 w3:World} {l:List No} {u2:σ} (hsame:∀ u w w',I u w→(∀ k,X k→w'.heap[k]? = w.heap[k]?)→I u w') (hX:∀ k,X k→k<w.heap.size) (hlx:¬ X lb) (hga:E.g<w.heap.size) (haa:E.a<w.heap.size) (hlg:lb≠E.g) (hla:lb≠E.a)
    (hog:∀ k,(Value.slice B n c).ownBlock=some k→k≠E.g∧k≠E.a∧¬ X k) (hp:PS E w2 i2 b2) (hI:I u2 w2) (hlen:l.length≤1000000) (hb:But (fun k=>k=E.g∨X k) w w2) (how:w.ownsRow base 25 5 (.slice B n c) n xs) (hl3:Blk w3 lb 23 #[.slice B n c]) (ho3:w3.ownsRow base 25 5 (.slice B3 (n+l.length) c3) (n+l.length) (xs ++ xs2))
    (hn:NosR w2 (New w w2) l xs2) (hg:w2.grownBy w3 (Value.slice B n c).ownBlock) (hat:(Value.slice B3 (n+l.length) c3).ownBlock=(Value.slice B n c).ownBlock∨(Value.slice B3 (n+l.length) c3).ownBlock=some w2.heap.size) (hll:lb<w.heap.size) :
    AppPost E X I w lb base n c B xs (.ok ((l,u2),(i2,b2))) (.returned (.tuple #[])) (w3.setCell ⟨lb,0,none⟩ (.slice B3 (n+l.length) c3)):=by
  have hz2:=hb.size;have hz3:=hg.size;have hs:∀ k,k≠lb→(w3.setCell ⟨lb,0,none⟩ (.slice B3 (n+l.length) c3)).heap[k]? = w3.heap[k]?:=fun k hk=>Below.heap_setCell w3 ⟨lb,0,none⟩ _ k hk;have hg2:∀ k,k<w2.heap.size→(Value.slice B n c).ownBlock≠some k→w3.heap[k]? = w2.heap[k]?:=fun k hk hn=>hg.block k hk (fun e=>hn e.symm);have hng:(Value.slice B n c).ownBlock≠some E.g:=fun e=>(hog _ e).1 rfl;have hna:(Value.slice B n c).ownBlock≠some E.a:=fun e=>(hog _ e).2.1 rfl;refine ⟨⟨hg.os.trans hb.os,hg.tape.trans hb.tape,hg.output.trans hb.output,by simp;omega,fun k hk hn=>?_⟩,rfl,?_,?_,hlen,B3,c3,xs2,?_,?_,?_,?_⟩
  · exact (hs k (fun e=>hn (.inr (.inr (.inl e))))).trans ((hg2 k (by omega) (fun e=>hn (.inr (.inr (.inr e))))).trans (hb.block k hk (fun e=>hn (by rcases e with e | e;exact .inl e;exact .inr (.inl e)))))
  · exact (hp.same (hg2 _ (by omega) hng) (hg2 _ (by omega) hna) hz3).far1 hlg hla _
  · exact hsame _ _ _ hI fun k hk=>(hs k (fun e=>hlx (e ▸ hk))).trans (hg2 k (by have:=hX k hk;omega) (fun e=>(hog _ e).2.2 hk))
  · simpa using hl3.set_ 0 (.slice B3 (n+l.length) c3)
  · exact own_same ho3 fun k hk=>hs k (fun e=>own_blk ho3 hl3 (by decide) (e ▸ hk))
  · refine hn.keep (fun k hk=>?_) (fun k hk=>⟨hk.1,by have:=hk.2;simp;omega⟩)
    have h1:=hk.1;exact (hs k (by omega)).trans (hg2 k hk.2 (fun e=>by have:=(how.lt k e).2;omega))
  · rcases hat with h | h
    · exact .inl h
    · exact .inr ⟨_,h,hz2,by have:=(ho3.lt _ h).2;simp;omega⟩
theorem list_len {ts:List Tk} (hw:WT ts) {σ:Type} {closing:ByteArray} {least:Nat} {one:σ→PM (No×σ)} (h1:∀ u i,lo≤i→i<ts.length→Fine ts (i+1) (one u) i b) {l:List No} {u':σ} {s:Ps} :
    ∀ (f:Nat) (u:σ) (out:List No) (i:Nat),lo≤i→i<ts.length→listP ts closing least one f u out (i,b)=some (.ok ((l,u'),s))→l.length+i≤out.length+s.1∧s.1<ts.length
  | 0,_,_,_,_,_,h=>by simp [listP] at h
  | f+1,u,out,i,hl,hi,h=>by
    unfold listP at h;replace h:=is_bind (E:=⟨0,0,0,0,ts⟩) h;split at h
    · cases Option.some.inj h
      exact ⟨Nat.le_refl _,hi⟩
    · obtain ⟨rx,h2,h3⟩:=bind_cases h
      cases rx with
      | error p=>cases h3
      | ok aa=>
        obtain ⟨⟨x,u2⟩,i2,b2⟩:=aa;obtain ⟨g1,g2,g3⟩:=(h1 u i hl hi).2 _ _ h2;dsimp only at g1 g2 g3 h3;subst b2;by_cases hq:oneOf (tokAt ts i2) [⟨#[44]⟩]=true
        · replace h3:=take_bind1 (E:=⟨0,0,0,0,ts⟩) h3 hq
          rw [if_pos rfl] at h3;have:=list_len hw h1 f u2 _ (i2+1) (by omega) (hw.nxt _ g2 (one_n7 hq)) h3;simp only [List.length_append,List.length_cons,List.length_nil] at this;omega
        · replace h3:=take_bind0 (E:=⟨0,0,0,0,ts⟩) h3 (Bool.eq_false_iff.2 hq)
          rw [if_neg Bool.false_ne_true] at h3;cases Option.some.inj h3;simp;omega
theorem composite1_calls (hE:EOk E) {σ:Type} {X:Nat→Prop} {I:σ→World→Prop} {one:σ→PM (No×σ)} {lb pb base n c:Nat} {B:Option Addr} {xs:List Value} (ho:One E X I one 154 #[.pointer (some ⟨pb,0,none⟩)] lo) {u:σ} (h:PS E w i b) (hI:I u w) (hlo:lo≤i) (hX:∀ k,X k→k<w.heap.size)
    (hl:Blk w lb 23 #[.slice B n c]) (hown:w.ownsRow base 25 5 (.slice B n c) n xs) (hp:Blk w pb 49 #[(.pointer (some ⟨E.g,0,none⟩))]) (hlg:lb≠E.g) (hla:lb≠E.a) (hlx:¬ X lb) (hog:∀ k,(Value.slice B n c).ownBlock=some k→k≠E.g∧k≠E.a∧¬ X k) (hn:n≤10) (hbase:base≤w.heap.size) {r:Except Int ((List No×σ)×Ps)} (hr:listP E.ts ⟨#[125]⟩ 0 one (E.ts.length+1) u [] (i,b)=some r) :
    Calls Tryz.prog 153 #[.pointer (some ⟨lb,0,none⟩),.pointer (some ⟨pb,0,none⟩)] w (AppPost E X I w lb base n c B xs r):=by
  have hln:=hE.len;have hil:=h.ilt;have hpl:=hp.lt;have hll:=hl.lt;have hlq:=hl.cell 0;have hlf:=hl.frozen 0;have hpq:=hp.cell 0;simp at hlq hpq;have HP:=zh h;have HE:=zh hE;have HO:=zh ho;have HI:=zh hI;have HX:=zh hX;have HL:=zh hl;have HW:=zh hown;have HG:=zh hog;have hlx2:=zh hlx;have HLX:=zh hlx;have hga:=h.glt;have haa:=h.lt;have HR:=zh hr;clear h hE ho hI hX hl hown hp hog hlx hr;obtain ⟨i0,hi0,iz0,iz1,iz2⟩:=info_parts info_node;go_enter Tryz.func153,Tryz.ntmps153
  go_region_law
    (first
      | (go_simp
         go_at_call 95
         refine (list_calls (closing:=⟨#[125]⟩) (least:=0) HE.out HO.out rfl HR.out HP.out.drew (HO.out.same _ _ _ HI.out fun _ _=>rfl) hlo (by omega) HX.out).mono ?_;rintro e w2 ⟨hb2,hp2⟩;rcases r with p | ⟨⟨l,u2⟩,i2,b2⟩
         · obtain rfl:=hp2
           exact ⟨rfl,hb2.undrew.mono fun _ _ h=>by rcases h with h | h;exact .inl h;exact .inr (.inl h),rfl⟩
         obtain ⟨hps,v,rfl,⟨A2,c2,rfl,xs2,hrow,hnos⟩,hI2⟩:=hp2;try dsimp only at hps hrow hnos hI2
         have hlen:l.length≤1000000:=by
           have:=list_len HE.out.wt (fun u j hj h=>HO.out.fine u j b hj h) _ _ _ i hlo hil HR.out;simp at this;omega
         have hz2:=hb2.size;(try simp at hz2);have HB2:Hid (But (fun k=>k=E.g∨X k) w w2):=zh hb2.undrew;have HP2:=zh hps;have HI2:=zh hI2;have HROW:=zh hrow;have HNOS:Hid (NosR w2 (New w w2) l xs2):=zh hnos;have HL2:=zh (HL.out.but HB2.out (fun e=>by rcases e with e | e;exact hlg e;exact HLX.out e));have HW2:=zh (own_same HW.out fun k hk=>HB2.out.block k (HW.out.lt k hk).2 (fun e=>by rcases e with e | e;exact (HG.out k hk).1 e;exact (HG.out k hk).2.2 e));have lq2:=HL2.out.cell 0;simp at lq2
         clear hb2 hps hI2 hrow hnos)
      | (refine step_append_row _ rfl _ _ 23 rfl base 25 i0 _ 5 64 Tryz.underlying23 hi0 iz0 iz1 iz2 rfl (by omega) (.slice B n c) n xs (by simp [Act.eval]) HW2.out (New w.drew w2) (.slice A2 l.length c2) l.length xs2 (by simp [Act.eval]) HROW.out (nos_one HNOS.out) (by unfold maxLen;omega) (by omega) (by omega) ?_
         intro v' w3 hown hg hnil hat;obtain ⟨B3,c3,rfl⟩:=own_form hown;have HW3:=zh hown;have HGR:=zh hg;have HAT:=zh hat;have HL3:=zh (HL2.out.grown hg (fun e=>own_blk HW2.out HL2.out (by decide) e.symm));have lq3:=HL3.out.cell 0;simp at lq3;have lf3:=HL3.out.frozen 0;have ll3:=HL3.out.lt
         clear hown hg hnil hat))
  all_goals
    go_end0
    exact app_end HO.out.same HX.out hlx2.out hga haa hlg hla HG.out HP2.out HI2.out hlen HB2.out HW.out HL3.out HW3.out HNOS.out HGR.out HAT.out hll
theorem call1_calls (hE:EOk E) {σ:Type} {X:Nat→Prop} {I:σ→World→Prop} {one:σ→PM (No×σ)} {lb pb base n c:Nat} {tb:Nat} {B:Option Addr} {xs:List Value} (ho:One E X I one 151 #[.pointer (some ⟨tb,0,none⟩),.pointer (some ⟨pb,0,none⟩)] lo) {u:σ} (h:PS E w i b) (hI:I u w) (hlo:lo≤i) (hX:∀ k,X k→k<w.heap.size)
    (hl:Blk w lb 23 #[.slice B n c]) (hown:w.ownsRow base 25 5 (.slice B n c) n xs) (hp:Blk w pb 49 #[(.pointer (some ⟨E.g,0,none⟩))]) (hlg:lb≠E.g) (hla:lb≠E.a) (hlx:¬ X lb) (hog:∀ k,(Value.slice B n c).ownBlock=some k→k≠E.g∧k≠E.a∧¬ X k) (hn:n≤10) (hbase:base≤w.heap.size) {r:Except Int ((List No×σ)×Ps)} (hr:listP E.ts ⟨#[41]⟩ 0 one (E.ts.length+1) u [] (i,b)=some r) :
    Calls Tryz.prog 150 #[.pointer (some ⟨lb,0,none⟩),.pointer (some ⟨pb,0,none⟩),.pointer (some ⟨tb,0,none⟩)] w (AppPost E X I w lb base n c B xs r):=by
  have hln:=hE.len;have hil:=h.ilt;have hpl:=hp.lt;have hll:=hl.lt;have hlq:=hl.cell 0;have hlf:=hl.frozen 0;have hpq:=hp.cell 0;simp at hlq hpq;have HP:=zh h;have HE:=zh hE;have HO:=zh ho;have HI:=zh hI;have HX:=zh hX;have HL:=zh hl;have HW:=zh hown;have HG:=zh hog;have hlx2:=zh hlx;have HLX:=zh hlx;have hga:=h.glt;have haa:=h.lt;have HR:=zh hr;clear h hE ho hI hX hl hown hp hog hlx hr;obtain ⟨i0,hi0,iz0,iz1,iz2⟩:=info_parts info_node;go_enter Tryz.func150,Tryz.ntmps150
  go_region_law
    (first
      | (go_simp
         go_at_call 95
         refine (list_calls (closing:=⟨#[41]⟩) (least:=0) HE.out HO.out rfl HR.out HP.out.drew (HO.out.same _ _ _ HI.out fun _ _=>rfl) hlo (by omega) HX.out).mono ?_;rintro e w2 ⟨hb2,hp2⟩;rcases r with p | ⟨⟨l,u2⟩,i2,b2⟩
         · obtain rfl:=hp2
           exact ⟨rfl,hb2.undrew.mono fun _ _ h=>by rcases h with h | h;exact .inl h;exact .inr (.inl h),rfl⟩
         obtain ⟨hps,v,rfl,⟨A2,c2,rfl,xs2,hrow,hnos⟩,hI2⟩:=hp2;try dsimp only at hps hrow hnos hI2
         have hlen:l.length≤1000000:=by
           have:=list_len HE.out.wt (fun u j hj h=>HO.out.fine u j b hj h) _ _ _ i hlo hil HR.out;simp at this;omega
         have hz2:=hb2.size;(try simp at hz2);have HB2:Hid (But (fun k=>k=E.g∨X k) w w2):=zh hb2.undrew;have HP2:=zh hps;have HI2:=zh hI2;have HROW:=zh hrow;have HNOS:Hid (NosR w2 (New w w2) l xs2):=zh hnos;have HL2:=zh (HL.out.but HB2.out (fun e=>by rcases e with e | e;exact hlg e;exact HLX.out e));have HW2:=zh (own_same HW.out fun k hk=>HB2.out.block k (HW.out.lt k hk).2 (fun e=>by rcases e with e | e;exact (HG.out k hk).1 e;exact (HG.out k hk).2.2 e));have lq2:=HL2.out.cell 0;simp at lq2
         clear hb2 hps hI2 hrow hnos)
      | (refine step_append_row _ rfl _ _ 23 rfl base 25 i0 _ 5 64 Tryz.underlying23 hi0 iz0 iz1 iz2 rfl (by omega) (.slice B n c) n xs (by simp [Act.eval]) HW2.out (New w.drew w2) (.slice A2 l.length c2) l.length xs2 (by simp [Act.eval]) HROW.out (nos_one HNOS.out) (by unfold maxLen;omega) (by omega) (by omega) ?_
         intro v' w3 hown hg hnil hat;obtain ⟨B3,c3,rfl⟩:=own_form hown;have HW3:=zh hown;have HGR:=zh hg;have HAT:=zh hat;have HL3:=zh (HL2.out.grown hg (fun e=>own_blk HW2.out HL2.out (by decide) e.symm));have lq3:=HL3.out.cell 0;simp at lq3;have lf3:=HL3.out.frozen 0;have ll3:=HL3.out.lt
         clear hown hg hnil hat))
  all_goals
    go_end0
    exact app_end HO.out.same HX.out hlx2.out hga haa hlg hla HG.out HP2.out HI2.out hlen HB2.out HW.out HL3.out HW3.out HNOS.out HGR.out HAT.out hll
theorem suffixes1_calls (hE:EOk E) {σ:Type} {X:Nat→Prop} {I:σ→World→Prop} {one:σ→PM (No×σ)} {lb pb base n c:Nat} {B:Option Addr} {xs:List Value} (ho:One E X I one 119 #[(.pointer (some ⟨E.g,0,none⟩))] lo) {u:σ} (h:PS E w i b) (hI:I u w) (hlo:lo≤i) (hX:∀ k,X k→k<w.heap.size)
    (hl:Blk w lb 23 #[.slice B n c]) (hown:w.ownsRow base 25 5 (.slice B n c) n xs) (hp:Blk w pb 49 #[(.pointer (some ⟨E.g,0,none⟩))]) (hlg:lb≠E.g) (hla:lb≠E.a) (hlx:¬ X lb) (hog:∀ k,(Value.slice B n c).ownBlock=some k→k≠E.g∧k≠E.a∧¬ X k) (hn:n≤10) (hbase:base≤w.heap.size) {r:Except Int ((List No×σ)×Ps)} (hr:listP E.ts ⟨#[93]⟩ 1 one (E.ts.length+1) u [] (i,b)=some r) :
    Calls Tryz.prog 118 #[.pointer (some ⟨lb,0,none⟩),.pointer (some ⟨pb,0,none⟩)] w (AppPost E X I w lb base n c B xs r):=by
  have hln:=hE.len;have hil:=h.ilt;have hpl:=hp.lt;have hll:=hl.lt;have hlq:=hl.cell 0;have hlf:=hl.frozen 0;have hpq:=hp.cell 0;simp at hlq hpq;have HP:=zh h;have HE:=zh hE;have HO:=zh ho;have HI:=zh hI;have HX:=zh hX;have HL:=zh hl;have HW:=zh hown;have HG:=zh hog;have hlx2:=zh hlx;have HLX:=zh hlx;have hga:=h.glt;have haa:=h.lt;have HR:=zh hr;clear h hE ho hI hX hl hown hp hog hlx hr;obtain ⟨i0,hi0,iz0,iz1,iz2⟩:=info_parts info_node;go_enter Tryz.func118,Tryz.ntmps118
  go_region_law
    (first
      | (go_simp
         go_at_call 95
         refine (list_calls (closing:=⟨#[93]⟩) (least:=1) HE.out HO.out rfl HR.out HP.out.drew (HO.out.same _ _ _ HI.out fun _ _=>rfl) hlo (by omega) HX.out).mono ?_;rintro e w2 ⟨hb2,hp2⟩;rcases r with p | ⟨⟨l,u2⟩,i2,b2⟩
         · obtain rfl:=hp2
           exact ⟨rfl,hb2.undrew.mono fun _ _ h=>by rcases h with h | h;exact .inl h;exact .inr (.inl h),rfl⟩
         obtain ⟨hps,v,rfl,⟨A2,c2,rfl,xs2,hrow,hnos⟩,hI2⟩:=hp2;try dsimp only at hps hrow hnos hI2
         have hlen:l.length≤1000000:=by
           have:=list_len HE.out.wt (fun u j hj h=>HO.out.fine u j b hj h) _ _ _ i hlo hil HR.out;simp at this;omega
         have hz2:=hb2.size;(try simp at hz2);have HB2:Hid (But (fun k=>k=E.g∨X k) w w2):=zh hb2.undrew;have HP2:=zh hps;have HI2:=zh hI2;have HROW:=zh hrow;have HNOS:Hid (NosR w2 (New w w2) l xs2):=zh hnos;have HL2:=zh (HL.out.but HB2.out (fun e=>by rcases e with e | e;exact hlg e;exact HLX.out e));have HW2:=zh (own_same HW.out fun k hk=>HB2.out.block k (HW.out.lt k hk).2 (fun e=>by rcases e with e | e;exact (HG.out k hk).1 e;exact (HG.out k hk).2.2 e));have lq2:=HL2.out.cell 0;simp at lq2
         clear hb2 hps hI2 hrow hnos)
      | (refine step_append_row _ rfl _ _ 23 rfl base 25 i0 _ 5 64 Tryz.underlying23 hi0 iz0 iz1 iz2 rfl (by omega) (.slice B n c) n xs (by simp [Act.eval]) HW2.out (New w.drew w2) (.slice A2 l.length c2) l.length xs2 (by simp [Act.eval]) HROW.out (nos_one HNOS.out) (by unfold maxLen;omega) (by omega) (by omega) ?_
         intro v' w3 hown hg hnil hat;obtain ⟨B3,c3,rfl⟩:=own_form hown;have HW3:=zh hown;have HGR:=zh hg;have HAT:=zh hat;have HL3:=zh (HL2.out.grown hg (fun e=>own_blk HW2.out HL2.out (by decide) e.symm));have lq3:=HL3.out.cell 0;simp at lq3;have lf3:=HL3.out.frozen 0;have ll3:=HL3.out.lt
         clear hown hg hnil hat))
  all_goals
    go_end0
    exact app_end HO.out.same HX.out hlx2.out hga haa hlg hla HG.out HP2.out HI2.out hlen HB2.out HW.out HL3.out HW3.out HNOS.out HGR.out HAT.out hll
end
def SV (S:Nat→Prop) (lo hi k:Nat):Prop:=S k∨(lo≤k∧k<hi)
theorem sv_but {X:Nat→Prop} {S:Nat→Prop} {lo hi:Nat} {w w':World} (h:But X w w') (h1:∀ k,SV S lo hi k→k<w.heap.size) (h2:∀ k,SV S lo hi k→¬ X k):SameOn (SV S lo hi) w w':=h.sameOn fun k hk=>⟨h1 k hk,h2 k hk⟩
theorem sv_xs {E:Env} {S:Nat→Prop} {l:List Nat} {lo hi:Nat} {w w':World} (h:But (Xs E l) w w') (h1:∀ k,SV S lo hi k→k<w.heap.size) (h2:∀ k,SV S lo hi k→¬ Xs E l k):SameOn (SV S lo hi) w w':=sv_but h h1 h2
set_option maxRecDepth 100000
set_option maxHeartbeats 4000000
section
variable {E:Env} {G:Gr} {lo:Nat} {w:World} {i:Nat} {b:Bool}
theorem row_app {S:Nat→Prop} {W1 w2:World} {base lo ab n c':Nat} {B':Option Addr} {t:No} {l:List No} {cs xs2:List Value} (hown:w2.ownsRow base 25 5 (.slice B' n c') n (cs ++ xs2)) (hn:n=l.length+1)
    (hat:(Value.slice B' n c').ownBlock=(Value.slice (some ⟨ab,0,none⟩) 1 1).ownBlock∨∃ k,(Value.slice B' n c').ownBlock=some k∧W1.heap.size≤k∧k<w2.heap.size) (ht:NoR w2 (SV S lo w2.heap.size) t cs) (hl:NosR w2 (New W1 w2) l xs2) (h1:lo≤ab) (h2:lo≤W1.heap.size) (h3:ab<w2.heap.size) :
    RowN w2 (SV S lo w2.heap.size) (.slice B' (t :: l).length c') (t :: l):=by
  subst hn;refine ⟨_,Row.of_own hown fun k hk=>?_,NosR.cons_ ht (hl.keep zr fun k hk=>.inr ⟨Nat.le_trans h2 hk.1,hk.2⟩)⟩;have hk:(Value.slice B' (l.length+1) c').ownBlock=some k:=hk;rcases hat with h | ⟨k2,h,g1,g2⟩
  · rw [h] at hk
    simp [Value.ownBlock] at hk;subst hk;exact .inr ⟨h1,h3⟩
  · rw [h] at hk
    cases hk;exact .inr ⟨Nat.le_trans h2 g1,g2⟩
theorem enters_composite1 (args:Array Value) (w:World):(callFunc 153 args).run Tryz.prog w = .ok (.enter 153 args) w:=by kernel_rfl
theorem composite_calls (hE:EOk E) (hF:GF E.ts G lo) (hO:OkG E G) (hlo:lo≤i) {fr:Int} {t:No} {cs:List Value} {S:Nat→Prop} (hS:∀ k,S k→k<w.heap.size∧k≠E.g) (ht:NoR w S t cs) {r:Except Int (No×Ps)} (hr:compositeP E.ts G fr t (i,b)=some r) (h:PS E w i b) :
    Calls Tryz.prog 123 #[(.pointer (some ⟨E.g,0,none⟩)),.int .i64 fr,.agg cs.toArray] w (Post E noX w (NoVS S w) r):=by
  obtain ⟨A0,c0,rfl,-⟩:=ht.forms;have hga:=h.glt;have haa:=h.lt;have hln:=hE.len;have hil:=h.ilt;have HP:=zh h;have HE:=zh hE;have HF:=zh hF;have HO:=zh hO;have HS:=zh hS;have Nt0:Hid (NoR w (SV S w.heap.size w.heap.size) t [.int .i64 t.k,.int .i64 t.fr,.int .i64 t.to,.string t.tx,.slice A0 t.ks.length c0]):=zh (ht.keep zr fun k h=>.inl h);have HB0:Hid (But (fun k=>gX E k) w w):=zh zb;clear h hE hF hO hS ht;have hf0:=tfield0;have hf1:=tfield1;have hf2:=tfield2;have hf3:=tfield3;go_enter Tryz.func123,Tryz.ntmps123;unfold compositeP at hr;go_wp2_with fail;by_cases hq:oneOf (E.tok i) [⟨#[123]⟩]=true
  case neg=>
   replace hq:=Bool.eq_false_iff.2 hq;replace hr:=need_bind0 hr hq;subst hr;refine (need_no (x:=⟨#[123]⟩) HE.out (((((HP.out.alloc _).alloc _).alloc _).alloc _).alloc _) hq).mono ?_;rintro e wz ⟨rfl,hb⟩;go_wp2_with fail;exact ⟨rfl,(((((HB0.out.alloc _).alloc _).alloc _).alloc _).alloc _).then_ hb,rfl⟩
  case pos=>
   replace hr:=need_bind1 hr hq;(try dsimp only at hr);refine (need_yes (x:=⟨#[123]⟩) HE.out (((((HP.out.alloc _).alloc _).alloc _).alloc _).alloc _) hq).mono ?_;rintro e w1 ⟨rfl,hp,hb⟩;simp only [tokV];have hx:=xm hb;have hz1:=hx.size;(try simp at hz1);have hw:But (Xs E []) w w1:=(((((zb.alloc _).alloc _).alloc _).alloc _).alloc _).trans hx xg;have Kp1:Hid (Blk w1 w.heap.size 49 #[(.pointer (some ⟨E.g,0,none⟩))]):=zh ((((((Blk.new' (by simp)).alloc _).alloc _).alloc _).alloc _).but hx (ng (by omega)));have Ktv1:Hid (Blk w1 (w.heap.size+1) 25 #[.int .i64 t.k,.int .i64 t.fr,.int .i64 t.to,.string t.tx,.slice A0 t.ks.length c0]):=zh (((((Blk.new' (by simp)).alloc _).alloc _).alloc _).but hx (ng (by omega)));have Kr1:Hid (Blk w1 (w.heap.size+2) 25 #[.int .i64 0,.int .i64 0,.int .i64 0,.string ⟨#[]⟩,.slice none 0 0]):=zh ((((Blk.new' (by simp)).alloc _).alloc _).but hx (ng (by omega)));have Kab1:Hid (Blk w1 (w.heap.size+3) 25 #[.int .i64 t.k,.int .i64 t.fr,.int .i64 t.to,.string t.tx,.slice A0 t.ks.length c0]):=zh (((Blk.new' (by simp)).alloc _).but hx (ng (by omega)));have Klb1:Hid (Blk w1 (w.heap.size+4) 23 #[.slice (some ⟨w.heap.size+3,0,none⟩) 1 1]):=zh ((Blk.new' (by simp)).but hx (ng (by omega)));have Nt1:Hid (NoR w1 (SV S w.heap.size w.heap.size) t [.int .i64 t.k,.int .i64 t.fr,.int .i64 t.to,.string t.tx,.slice A0 t.ks.length c0]):=zh (Nt0.out.keep (sv_xs hw (fun k hk=>by rcases hk with h1 | ⟨h1,h2⟩;(have h3:=HS.out _ h1;omega);omega) (fun k h1 e=>by rcases h1 with h1 | ⟨h1,h2⟩;(have h3:=HS.out _ h1;rcases e with e | e;omega;(try simp at e) <;> omega);(rcases e with e | e;omega;(try simp at e) <;> omega))) fun _ h=>h);have HP1:=zh hp;have HB1:=b0 HB0 hw;clear Nt0 hw hb hx hp hq;have pq0:=Kp1.out.cell 0;simp at pq0;have pqf:=Kp1.out.frozen;have pql:=Kp1.out.lt;go_wp2_with fail;obtain ⟨ry,h0,hr⟩:=bind_cases hr;obtain ⟨rz,hz,rfl⟩:=flag_cases h0;clear h0
   refine (within_calls (R1:=AppPost E (fun k=>k=w.heap.size) (fun (_:Unit) w'=>Blk w' w.heap.size 49 #[(.pointer (some ⟨E.g,0,none⟩))]) _ (w.heap.size+4) w.heap.size 1 1 (some ⟨w.heap.size+3,0,none⟩) [.int .i64 t.k,.int .i64 t.fr,.int .i64 t.to,.string t.tx,.slice A0 t.ks.length c0] rz) HP1.out rfl (enters_composite1 _) (composite1_calls (lo:=lo+1) (base:=w.heap.size) (n:=1) (c:=1) (B:=some ⟨w.heap.size+3,0,none⟩) (xs:=[.int .i64 t.k,.int .i64 t.fr,.int .i64 t.to,.string t.tx,.slice A0 t.ks.length c0]) HE.out (compOne_one HE.out HF.out HO.out (by omega) (by omega)) (HP1.out.set2 false) (Kp1.out.far1 (r:=E.g) (o:=2) (by omega) _) (by omega) (fun k hk=>by have e:=hk;(try dsimp only at e);simp;omega) (Klb1.out.far1 (r:=E.g) (o:=2) (by omega) _) (own_blkA (n:=1) (Kab1.out.far1 (r:=E.g) (o:=2) (by omega) _) (by omega) rfl (by unfold maxLen;omega)) (Kp1.out.far1 (r:=E.g) (o:=2) (by omega) _) (by omega) (by omega) (by intro e;have e2:=e;(try dsimp only at e2);omega) (fun k hk=>by simp [Value.ownBlock] at hk;subst hk;exact ⟨by omega,by omega,(by intro e;have e2:=e;(try dsimp only at e2);omega)⟩) (by omega) (by simp;omega) hz) ?_);intro e w2 hA;rcases rz with p | ⟨⟨l,u⟩,i2,b2⟩
   ·
    obtain ⟨hb,rfl⟩:=hA;refine .inl ⟨_,rfl,?_⟩;(try dsimp only at hr);subst hr;go_wp2_with fail;exact ⟨rfl,(HB1.out.set_ (p:=⟨E.g,2,none⟩) (.inr (.inl rfl)) _).trans hb (fun k hk h=>by rcases h with h | h | h | h;exact .inl h;(have h2:=h;(try dsimp only at h2);exfalso;omega);(exfalso;omega);(simp [Value.ownBlock] at h;exfalso;omega)),rfl⟩
   obtain ⟨hb,rfl,hps,hI,hlen,B2,c2,xs2,hl2,hown2,hnos2,hat2⟩:=hA;(try dsimp only at hr hps hI hlen hl2 hown2 hnos2 hat2);obtain ⟨hi2,-,hbb⟩:=(fin_list HE.out.wt (lo+1) (fun u j hj h=>compOne_fin HE.out.wt HF.out hj h u) _ _ _ _ (by omega) HP1.out.ilt (by omega)).2 _ _ hz;dsimp only at hi2 hbb;subst b2;refine .inr ⟨rfl,i2,false,hps,?_⟩;have hb3:But (fun k=>k=E.g∨k=w.heap.size∨k=w.heap.size+4∨k=w.heap.size+3) _ _:=hb.mono (fun k _ h=>by rcases h with h | h | h | h;exact .inl h;exact .inr (.inl h);exact .inr (.inr (.inl h));exact .inr (.inr (.inr (by simp [Value.ownBlock] at h;exact h.symm))));have hz2:=hb3.size;(try simp at hz2);have hw:But (Xs E [w.heap.size,w.heap.size+4,w.heap.size+3]) w1 w2:=(zb.set_ (p:=⟨E.g,2,none⟩) (.inr (.inl rfl)) _).trans hb3 (fun k _ h=>by rcases h with h | h | h | h <;> simp [Xs,h]);have Ktv2:=k2 Ktv1 hw (by omega) (by simp <;> omega);have Kr2:=k2 Kr1 hw (by omega) (by simp <;> omega);have Nt2:Hid (NoR w2 (SV S w.heap.size w.heap.size) t [.int .i64 t.k,.int .i64 t.fr,.int .i64 t.to,.string t.tx,.slice A0 t.ks.length c0]):=zh (Nt1.out.keep (sv_xs hw (fun k hk=>by rcases hk with h1 | ⟨h1,h2⟩;(have h3:=HS.out _ h1;omega);omega) (fun k h1 e=>by rcases h1 with h1 | ⟨h1,h2⟩;(have h3:=HS.out _ h1;rcases e with e | e;omega;(try simp at e) <;> omega);(rcases e with e | e;omega;(try simp at e) <;> omega))) fun _ h=>h);have HP2:=zh hps;have HB2:=YtfmgdmeopakdaaaGreatDoor.b2 HB1 hw (by simp <;> omega);clear pq0 pqf pql Kp1 Ktv1 Kr1 Kab1 Klb1 Nt1 HP1 HB1 hw;rw [Nat.add_comm 1 l.length] at hl2 hown2 hat2;have Klb2:Hid (Blk w2 (w.heap.size+4) 23 #[.slice B2 (l.length+1) c2]):=zh hl2;have Nl2:Hid (RowN w2 (SV S (w.heap.size+3) w2.heap.size) (.slice B2 (l.length+1) c2) (t :: l)):=zh (row_app (t:=t) hown2 rfl hat2 (Nt2.out.keep zr fun k hk=>by rcases hk with h1 | ⟨h1,h2⟩;exact .inl h1;exact .inr ⟨by omega,by omega⟩) hnos2 (by omega) (by simp;omega) (by omega));clear Nt2 hb hb3 hps hl2 hown2 hat2 hnos2 hz;have Kp2:Hid (Blk w2 w.heap.size 49 #[(.pointer (some ⟨E.g,0,none⟩))]):=zh hI;clear hI;have pq0:=Kp2.out.cell 0;simp at pq0;have pqf:=Kp2.out.frozen;have pql:=Kp2.out.lt;go_wp2_with fail;by_cases hq:oneOf (E.tok i2) [⟨#[125]⟩]=true
   case neg=>
    replace hq:=Bool.eq_false_iff.2 hq;replace hr:=need_bind0 hr hq;subst hr;refine (need_no (x:=⟨#[125]⟩) HE.out (HP2.out.set2 b) hq).mono ?_;rintro e wz ⟨rfl,hb⟩;go_wp2_with fail;exact ⟨rfl,(HB2.out.set_ (p:=⟨E.g,2,none⟩) (.inr (.inl rfl)) _).then_ hb,rfl⟩
   case pos=>
    replace hr:=need_bind1 hr hq;(try dsimp only at hr);refine (need_yes (x:=⟨#[125]⟩) HE.out (HP2.out.set2 b) hq).mono ?_;rintro e w3 ⟨rfl,hp,hb⟩;simp only [tokV];have hx:=xm hb;have hz3:=hx.size;(try simp at hz3);have hw:But (Xs E []) w2 w3:=(zb.set_ (p:=⟨E.g,2,none⟩) (.inr (.inl rfl)) _).trans hx xg;have Ktv3:=k0 Ktv2 hw;have Kr3:=k0 Kr2 hw;have Klb3:=k0 Klb2 hw;have Kp3:=k0 Kp2 hw;have Nl3:Hid (RowN w3 (SV S (w.heap.size+3) w2.heap.size) (.slice B2 (l.length+1) c2) (t :: l)):=zh (Nl2.out.keep (sv_xs hw (fun k hk=>by rcases hk with h1 | ⟨h1,h2⟩;(have h3:=HS.out _ h1;omega);omega) (fun k h1 e=>by rcases h1 with h1 | ⟨h1,h2⟩;(have h3:=HS.out _ h1;rcases e with e | e;omega;(try simp at e) <;> omega);(rcases e with e | e;omega;(try simp at e) <;> omega))) fun _ h=>h);have HP3:=zh hp;have HB3:=b0 HB2 hw;clear pq0 pqf pql Ktv2 Kr2 Klb2 Kp2 Nl2 HP2 HB2 hw hb hx hp hq;have pq0:=Kp3.out.cell 0;simp at pq0;have pqf:=Kp3.out.frozen;have pql:=Kp3.out.lt;have lbq0:=Klb3.out.cell 0;simp at lbq0;have lbqf:=Klb3.out.frozen;have lbql:=Klb3.out.lt;go_wp2_with fail;refine (made_calls HE.out HP3.out (by omega)).mono ?_;rintro e w4 ⟨rfl,hb⟩;have hx:=kxb (E:=E) hb;have hz4:=hx.size;(try simp at hz4);have hw:=xs0 hx;have Ktv4:=k0 Ktv3 hw;have Kr4:=k0 Kr3 hw;have Klb4:=k0 Klb3 hw;have Kp4:=k0 Kp3 hw;have Nl4:Hid (RowN w4 (SV S (w.heap.size+3) w2.heap.size) (.slice B2 (l.length+1) c2) (t :: l)):=zh (Nl3.out.keep (sv_xs hw (fun k hk=>by rcases hk with h1 | ⟨h1,h2⟩;(have h3:=HS.out _ h1;omega);omega) (fun k h1 e=>by rcases h1 with h1 | ⟨h1,h2⟩;(have h3:=HS.out _ h1;rcases e with e | e;omega;(try simp at e) <;> omega);(rcases e with e | e;omega;(try simp at e) <;> omega))) fun _ h=>h);have HP4:=zh (HP3.out.below hb);have HB4:=b0 HB3 hw;clear pq0 pqf pql lbq0 lbqf lbql Ktv3 Kr3 Klb3 Kp3 Nl3 HP3 HB3 hw hb hx;obtain ⟨rq0,rq1,rq2,rq3,rq4,rqf,rql⟩:=Kr4.out.cells5;go_wp2_with fail;obtain rfl:=made_end hr
    exact node_ret (r:=w.heap.size+2) Tryz.results123 (by rfl) (Kr4.out.put5 _ _ _ _ _) (by rfl) ⟨(HB4.out.set5 (.inl (by omega)) _ _ _ _ _),(HP4.out.far5 (by omega) (by omega) _ _ _ _ _),_,rfl,_,_,rfl,(Nl4.out.keep ((SameOn.refl (SV S (w.heap.size+3) w2.heap.size) w4).set5 (by intro hk;rcases hk with h1 | ⟨h1,h2⟩;(have h3:=HS.out _ h1;omega);omega) _ _ _ _ _) fun k hk=>by rcases hk with h1 | ⟨h1,h2⟩;exact .inl h1;exact .inr ⟨by omega,by first | omega | (simp;omega)⟩)⟩
end
set_option maxRecDepth 100000
set_option maxHeartbeats 4000000
section
variable {E:Env} {G:Gr} {lo:Nat} {w:World} {i:Nat} {b:Bool}
theorem iv_S {lo hi n g:Nat} (h1:hi≤n) (h2:g<lo):∀ k,Iv lo hi k→k<n∧k≠g:=fun k hk=>⟨Nat.lt_of_lt_of_le hk.2 h1,fun e=>by have:=hk.1;omega⟩
theorem opName_calls (hE:EOk E) (hF:GF E.ts G lo) (hO:OkG E G) (hlo:lo≤i) {r:Except Int (No×Ps)} (hr:opNameP E.ts G (i,b)=some r) (h:PS E w i b):Calls Tryz.prog 121 #[(.pointer (some ⟨E.g,0,none⟩))] w (Post E noX w (NoV w) r):=by
  have hga:=h.glt;have haa:=h.lt;have hln:=hE.len;have hil:=h.ilt;have HP:=zh h;have HE:=zh hE;have HB0:Hid (But (fun k=>gX E k) w w):=zh zb;have HF:=zh hF;have HO:=zh hO;clear hF hO;clear h hE;have hf0:=tfield0;have hf1:=tfield1;have hf2:=tfield2;have hf3:=tfield3;go_enter Tryz.func121,Tryz.ntmps121;unfold opNameP at hr;go_wp2_with fail;by_cases hq:(E.tok i).k=1
  case neg=>
   replace hr:=name_bind0 hr hq;subst hr;refine (name_no HE.out (HP.out.alloc _) hq).mono ?_;rintro e wz ⟨rfl,hb⟩;go_wp2_with fail;exact ⟨rfl,(HB0.out.alloc _).then_ hb,rfl⟩
  case pos=>
   replace hr:=name_bind1 hr hq;(try dsimp only at hr);refine (name_yes HE.out (HP.out.alloc _) hq).mono ?_;rintro e w1 ⟨rfl,hp,hb⟩;have hx:=xm hb;have hz1:=hx.size;(try simp at hz1);have hw:But (Xs E []) w w1:=(zb.alloc _).trans hx xg;have Kr1:Hid (Blk w1 w.heap.size 25 #[.int .i64 0,.int .i64 0,.int .i64 0,.string ⟨#[]⟩,.slice none 0 0]):=zh ((Blk.new' (by simp)).but hx (ng (by omega)));have HP1:=zh hp;have HB1:=b0 HB0 hw;clear hw hb hx hp;have Nn1:=nN w1 (E.tok i);clear hq;replace hr:=bare_bind hr;(try dsimp only at hr);cases b
   case true=>
    rw [if_pos rfl] at hr;obtain ⟨gq0,gq1,gq2,gqf,gql⟩:=HP1.out.cells;obtain ⟨rq0,rq1,rq2,rq3,rq4,rqf,rql⟩:=Kr1.out.cells5;go_wp2_with fail;obtain rfl:=pure_end hr;exact node_ret (r:=w.heap.size) Tryz.results121 (by rfl) ((Kr1.out.put5 _ _ _ _ _).alloc _) (by rfl) ⟨((HB1.out.set5 (.inl (by omega)) _ _ _ _ _).alloc _),((HP1.out.far5 (by omega) (by omega) _ _ _ _ _).alloc _),_,rfl,_,_,rfl,(nk Nn1 ((zr.set5 (iv (by omega)) _ _ _ _ _).za _) (by omega) (by first|omega|simp<;>omega)).row_⟩
   case false=>
    rw [if_neg Bool.false_ne_true] at hr;obtain ⟨gq0,gq1,gq2,gqf,gql⟩:=HP1.out.cells;go_wp2_with fail;replace hr:=is_bind hr;(try dsimp only at hr);refine (is_calls (l:=[⟨#[123]⟩]) HE.out ((HP1.out.alloc _).alloc _) (strs_new (n:=w1.heap.size+1) [⟨#[123]⟩] (by simp) (by simp)) (old_new (by simp))).mono ?_;rintro e w2 ⟨rfl,hb⟩;have hx:=kxb (E:=E) hb;have hz2:=hx.size;(try simp at hz2);have hw:But (Xs E []) w1 w2:=((zb.alloc _).alloc _).trans hx xg;have Kr2:=k0 Kr1 hw;have Kn2:Hid (Blk w2 w1.heap.size 25 #[.int .i64 40,.int .i64 (E.tok i).fr,.int .i64 (E.tok i).to,.string (E.tok i).tx,.slice none 0 0]):=zh (((Blk.new' (by simp)).alloc _).but hx (ng (by omega)));have Nn2:=n0 Nn1 hw;have HP2:=zh (((HP1.out.alloc _).alloc _).below hb);have HB2:=b0 HB1 hw;clear gq0 gq1 gq2 gqf gql Kr1 Nn1 HP1 HB1 hw hb hx;by_cases hq:oneOf (E.tok (i+1)) [⟨#[123]⟩]=true
    ·
     rw [hq];(try rw [if_pos hq] at hr);clear hq;obtain ⟨nq0,nq1,nq2,nq3,nq4,nqf,nql⟩:=Kn2.out.cells5;go_wp2_with fail;refine (composite_calls HE.out HF.out HO.out (by omega) (iv_S (by first | omega | (simp;done) | (simp;omega)) (by omega)) (Nn2.out.keep zr fun _ h=>h) hr HP2.out).mono ?_;rintro e w3 hp;rcases r with p | ⟨x,i2,b2⟩
     ·
      obtain ⟨hb,rfl⟩:=hp;go_wp2_with fail;exact ⟨rfl,HB2.out.trans hb mg,rfl⟩
     obtain ⟨hb,hp,v,rfl,A2,c2,rfl,hrow⟩:=hp;(try dsimp only at hp hrow);have hz3:=hb.size;(try simp at hz3);have hw:=xs0 hb;have Kr3:=k0 Kr2 hw;have Kn3:=k0 Kn2 hw;have Nn3:=n0 Nn2 hw;have HP3:=zh hp;have HB3:=b0 HB2 hw;clear nq0 nq1 nq2 nq3 nq4 nqf nql Kr2 Kn2 Nn2 HP2 HB2 hw;have Nx3:Hid (RowN w3 (Iv (w.heap.size+1) w3.heap.size) (.slice A2 x.ks.length c2) x.ks):=zh (hrow.keep zr fun k hk=>(by rcases hk with ⟨h1,h2⟩ | ⟨h1,h2⟩;exact ⟨by omega,by omega⟩;exact ⟨by (try simp at h1);omega,h2⟩));obtain ⟨rq0,rq1,rq2,rq3,rq4,rqf,rql⟩:=Kr3.out.cells5;go_wp2_with fail;exact node_ret (r:=w.heap.size) Tryz.results121 (by rfl) (Kr3.out.put5 _ _ _ _ _) (by rfl) ⟨(HB3.out.set5 (.inl (by omega)) _ _ _ _ _),(HP3.out.far5 (by omega) (by omega) _ _ _ _ _),_,rfl,_,_,rfl,(rk Nx3 (zr.set5 (iv (by omega)) _ _ _ _ _) (by omega) (by first|omega|simp<;>omega))⟩
    ·
     replace hq:=Bool.eq_false_iff.2 hq;rw [hq];(try rw [if_neg (Bool.eq_false_iff.1 hq)] at hr);clear hq;go_wp2_with fail;replace hr:=is_bind hr;(try dsimp only at hr);refine (is_calls (l:=[⟨#[46]⟩]) HE.out (HP2.out.alloc _) (strs_new (n:=w2.heap.size) [⟨#[46]⟩] (by simp) (by simp)) (old_new (by simp))).mono ?_;rintro e w3 ⟨rfl,hb⟩;have hx:=kxb (E:=E) hb;have hz3:=hx.size;(try simp at hz3);have hw:But (Xs E []) w2 w3:=(zb.alloc _).trans hx xg;have Kr3:=k0 Kr2 hw;have Kn3:=k0 Kn2 hw;have Nn3:=n0 Nn2 hw;have HP3:=zh ((HP2.out.alloc _).below hb);have HB3:=b0 HB2 hw;clear Kr2 Kn2 Nn2 HP2 HB2 hw hb hx;replace hr:=ahead_bind hr;(try dsimp only at hr);replace hr:=ahead_bind hr;(try dsimp only at hr);by_cases hq:oneOf (E.tok (i+1)) [⟨#[46]⟩]=true
     ·
      rw [hq];go_wp2_with fail;refine (ahead_calls (n:=1) HE.out HP3.out (by omega)).mono ?_;rintro e w4 ⟨rfl,hb⟩;simp only [tokV];have hx:=kxb (E:=E) hb;have hz4:=hx.size;(try simp at hz4);have hw:=xs0 hx;have Kr4:=k0 Kr3 hw;have Kn4:=k0 Kn3 hw;have Nn4:=n0 Nn3 hw;have HP4:=zh (HP3.out.below hb);have HB4:=b0 HB3 hw;clear Kr3 Kn3 Nn3 HP3 HB3 hw hb hx;by_cases hk:(E.tok (min (i+1+1) (E.ts.length - 1))).k=1
      ·
       (have hk6:((E.tok (min (i+1+1) (E.ts.length - 1))).k == 1)=true:=by simpa using hk);go_wp2_with fail;refine (ahead_calls (n:=2) HE.out HP4.out (by omega)).mono ?_;rintro e w5 ⟨rfl,hb⟩;have hx:=kxb (E:=E) hb;have hz5:=hx.size;(try simp at hz5);have hw:=xs0 hx;have Kr5:=k0 Kr4 hw;have Kn5:=k0 Kn4 hw;have Nn5:=n0 Nn4 hw;have HP5:=zh (HP4.out.below hb);have HB5:=b0 HB4 hw;clear Kr4 Kn4 Nn4 HP4 HB4 hw hb hx;go_wp2_with fail;refine (sort_calls (t:=(E.tok (min (i+1+2) (E.ts.length - 1)))) (l:=[⟨#[123]⟩]) (strs_new (n:=w5.heap.size) [⟨#[123]⟩] (by simp) (by simp)) (old_new (by simp))).mono ?_;rintro e w6 ⟨rfl,hb⟩;have hx:=kxb (E:=E) hb;have hz6:=hx.size;(try simp at hz6);have hw:But (Xs E []) w5 w6:=(zb.alloc _).trans hx xg;have Kr6:=k0 Kr5 hw;have Kn6:=k0 Kn5 hw;have Nn6:=n0 Nn5 hw;have HP6:=zh ((HP5.out.alloc _).below hb);have HB6:=b0 HB5 hw;clear Kr5 Kn5 Nn5 HP5 HB5 hw hb hx;by_cases hk2:oneOf (E.tok (min (i+1+2) (E.ts.length - 1))) [⟨#[123]⟩]=true
       ·
        rw [if_pos ⟨hq,hk,hk2⟩] at hr;rw [hk2];clear hq hk hk2 hk6;replace hr:=back_bind hr;rw [Nat.add_sub_cancel] at hr;obtain ⟨gq0,gq1,gq2,gqf,gql⟩:=HP6.out.cells;go_wp2_with fail;obtain ⟨rx,h1,hr⟩:=bind_cases hr;refine (typeName_calls HE.out h1 (HP6.out.set1 (j:=i) hil)).mono ?_;rintro e w7 hp;rcases rx with p | ⟨x7,i7,b7⟩
        ·
         obtain ⟨hb,rfl⟩:=hp;(try dsimp only at hr);subst hr;(try go_wp2_with fail);exact ⟨rfl,(HB6.out.set_ (p:=⟨E.g,1,none⟩) (.inr (.inl rfl)) _).trans hb mg,rfl⟩
        (try dsimp only at hr);obtain ⟨hi7,-,hbb⟩:=(typeName_fin HE.out.wt hil).2 _ _ h1;dsimp only at hi7 hbb;subst b7;obtain ⟨hb,hp,v,rfl,A7,c7,rfl,hrow⟩:=hp;(try dsimp only at hp hrow);have hz7:=hb.size;(try simp at hz7);have hw:But (Xs E []) w6 w7:=(zb.set_ (p:=⟨E.g,1,none⟩) (.inr (.inl rfl)) _).trans hb xg;have Kr7:=k0 Kr6 hw;have Kn7:=k0 Kn6 hw;have Nn7:=n0 Nn6 hw;have HP7:=zh hp;have HB7:=b0 HB6 hw;clear gq0 gq1 gq2 gqf gql Kr6 Kn6 Nn6 HP6 HB6 hw;have Nt7:=zn (lo:=w6.heap.size) hrow;clear hrow hb hp h1;obtain ⟨nq0,nq1,nq2,nq3,nq4,nqf,nql⟩:=Kn7.out.cells5;go_wp2_with fail;refine (composite_calls HE.out HF.out HO.out (by omega) (iv_S (by first | omega | (simp;done) | (simp;omega)) (by omega)) (Nt7.out.keep (zr.za _) fun _ h=>h) hr (HP7.out.alloc _)).mono ?_;rintro e w8 hp;rcases r with p | ⟨x,i2,b2⟩
        ·
         obtain ⟨hb,rfl⟩:=hp;go_wp2_with fail;exact ⟨rfl,(HB7.out.alloc _).trans hb mg,rfl⟩
        obtain ⟨hb,hp,v,rfl,A2,c2,rfl,hrow⟩:=hp;(try dsimp only at hp hrow);have hz8:=hb.size;(try simp at hz8);have hw:But (Xs E []) w7 w8:=(zb.alloc _).trans hb xg;have Kr8:=k0 Kr7 hw;have Kn8:=k0 Kn7 hw;have Kt8:Hid (Blk w8 w7.heap.size 25 #[.int .i64 x7.k,.int .i64 x7.fr,.int .i64 x7.to,.string x7.tx,.slice A7 x7.ks.length c7]):=zh ((Blk.new' (by simp)).but hb (ng (by omega)));have Nn8:=n0 Nn7 hw;have Nt8:=n0 Nt7 hw;have HP8:=zh hp;have HB8:=b0 HB7 hw;clear nq0 nq1 nq2 nq3 nq4 nqf nql Kr7 Kn7 Nn7 Nt7 HP7 HB7 hw;have Nx8:Hid (RowN w8 (Iv (w.heap.size+1) w8.heap.size) (.slice A2 x.ks.length c2) x.ks):=zh (hrow.keep zr fun k hk=>(by rcases hk with ⟨h1,h2⟩ | ⟨h1,h2⟩;exact ⟨by omega,by omega⟩;exact ⟨by (try simp at h1);omega,h2⟩));obtain ⟨rq0,rq1,rq2,rq3,rq4,rqf,rql⟩:=Kr8.out.cells5;go_wp2_with fail;exact node_ret (r:=w.heap.size) Tryz.results121 (by rfl) (Kr8.out.put5 _ _ _ _ _) (by rfl) ⟨(HB8.out.set5 (.inl (by omega)) _ _ _ _ _),(HP8.out.far5 (by omega) (by omega) _ _ _ _ _),_,rfl,_,_,rfl,(rk Nx8 (zr.set5 (iv (by omega)) _ _ _ _ _) (by omega) (by first|omega|simp<;>omega))⟩
       ·
        rw [if_neg (fun e=>hk2 e.2.2)] at hr;rw [Bool.eq_false_iff.2 hk2];clear hq hk hk2 hk6;obtain ⟨nq0,nq1,nq2,nq3,nq4,nqf,nql⟩:=Kn6.out.cells5;obtain ⟨rq0,rq1,rq2,rq3,rq4,rqf,rql⟩:=Kr6.out.cells5;go_wp2_with fail;obtain rfl:=pure_end hr;exact node_ret (r:=w.heap.size) Tryz.results121 (by rfl) (Kr6.out.put5 _ _ _ _ _) (by rfl) ⟨(HB6.out.set5 (.inl (by omega)) _ _ _ _ _),(HP6.out.far5 (by omega) (by omega) _ _ _ _ _),_,rfl,_,_,rfl,(nk Nn6 (zr.set5 (iv (by omega)) _ _ _ _ _) (by omega) (by first|omega|simp<;>omega)).row_⟩
      ·
       (have hk6:((E.tok (min (i+1+1) (E.ts.length - 1))).k == 1)=false:=by simpa using hk);rw [if_neg (fun e=>hk e.2.1)] at hr;clear hq hk;obtain ⟨nq0,nq1,nq2,nq3,nq4,nqf,nql⟩:=Kn4.out.cells5;obtain ⟨rq0,rq1,rq2,rq3,rq4,rqf,rql⟩:=Kr4.out.cells5;go_wp2_with fail;obtain rfl:=pure_end hr;exact node_ret (r:=w.heap.size) Tryz.results121 (by rfl) (Kr4.out.put5 _ _ _ _ _) (by rfl) ⟨(HB4.out.set5 (.inl (by omega)) _ _ _ _ _),(HP4.out.far5 (by omega) (by omega) _ _ _ _ _),_,rfl,_,_,rfl,(nk Nn4 (zr.set5 (iv (by omega)) _ _ _ _ _) (by omega) (by first|omega|simp<;>omega)).row_⟩
     ·
      replace hq:=Bool.eq_false_iff.2 hq;rw [hq];rw [if_neg (fun e=>Bool.eq_false_iff.1 hq e.1)] at hr;clear hq;obtain ⟨nq0,nq1,nq2,nq3,nq4,nqf,nql⟩:=Kn3.out.cells5;obtain ⟨rq0,rq1,rq2,rq3,rq4,rqf,rql⟩:=Kr3.out.cells5;go_wp2_with fail;obtain rfl:=pure_end hr;exact node_ret (r:=w.heap.size) Tryz.results121 (by rfl) (Kr3.out.put5 _ _ _ _ _) (by rfl) ⟨(HB3.out.set5 (.inl (by omega)) _ _ _ _ _),(HP3.out.far5 (by omega) (by omega) _ _ _ _ _),_,rfl,_,_,rfl,(nk Nn3 (zr.set5 (iv (by omega)) _ _ _ _ _) (by omega) (by first|omega|simp<;>omega)).row_⟩
end
set_option maxRecDepth 100000
set_option maxHeartbeats 4000000
section
variable {E:Env} {G:Gr} {lo:Nat} {w:World} {i:Nat} {b:Bool}
theorem arg_calls (hE:EOk E) (hF:GF E.ts G lo) (hO:OkG E G) (hlo:lo<i) {r:Except Int (No×Ps)} (hr:argP E.ts G (i,b)=some r) (h:PS E w i b):Calls Tryz.prog 119 #[(.pointer (some ⟨E.g,0,none⟩))] w (Post E noX w (NoV w) r):=by
  have hga:=h.glt;have haa:=h.lt;have hln:=hE.len;have hil:=h.ilt;have HP:=zh h;have HE:=zh hE;have HB0:Hid (But (fun k=>gX E k) w w):=zh zb;have HF:=zh hF;have HO:=zh hO;clear hF hO;clear h hE;have hf0:=tfield0;have hf1:=tfield1;have hf2:=tfield2;have hf3:=tfield3;go_enter Tryz.func119,Tryz.ntmps119;unfold argP at hr;go_wp2_with fail;replace hr:=is_bind hr;(try dsimp only at hr);refine (is_calls (l:=[⟨#[91]⟩,⟨#[99,104,97,110]⟩,⟨#[115,116,114,117,99,116]⟩,⟨#[105,110,116,101,114,102,97,99,101]⟩]) HE.out ((HP.out.alloc _).alloc _) (strs_new (n:=w.heap.size+1) [⟨#[91]⟩,⟨#[99,104,97,110]⟩,⟨#[115,116,114,117,99,116]⟩,⟨#[105,110,116,101,114,102,97,99,101]⟩] (by simp) (by simp)) (old_new (by simp))).mono ?_;rintro e w1 ⟨rfl,hb⟩;have hx:=kxb (E:=E) hb;have hz1:=hx.size;(try simp at hz1);have hw:But (Xs E []) w w1:=((zb.alloc _).alloc _).trans hx xg;have Kr1:Hid (Blk w1 w.heap.size 25 #[.int .i64 0,.int .i64 0,.int .i64 0,.string ⟨#[]⟩,.slice none 0 0]):=zh (((Blk.new' (by simp)).alloc _).but hx (ng (by omega)));have HP1:=zh (((HP.out.alloc _).alloc _).below hb);have HB1:=b0 HB0 hw;clear hw hb hx;by_cases hq:oneOf (E.tok i) [⟨#[91]⟩,⟨#[99,104,97,110]⟩,⟨#[115,116,114,117,99,116]⟩,⟨#[105,110,116,101,114,102,97,99,101]⟩]=true
  ·
   rw [hq];(try rw [if_pos hq] at hr);clear hq;replace hr:=from_bind hr;(try dsimp only at hr);go_wp2_with fail;refine (from_calls HE.out HP1.out).mono ?_;rintro e w2 ⟨rfl,hb⟩;have hx:=kxb (E:=E) hb;have hz2:=hx.size;(try simp at hz2);have hw:=xs0 hx;have Kr2:=k0 Kr1 hw;have HP2:=zh (HP1.out.below hb);have HB2:=b0 HB1 hw;clear Kr1 HP1 HB1 hw hb hx;go_wp2_with fail;replace hr:=is_bind hr;(try dsimp only at hr);refine (is_calls (l:=[⟨#[91]⟩]) HE.out (HP2.out.alloc _) (strs_new (n:=w2.heap.size) [⟨#[91]⟩] (by simp) (by simp)) (old_new (by simp))).mono ?_;rintro e w3 ⟨rfl,hb⟩;have hx:=kxb (E:=E) hb;have hz3:=hx.size;(try simp at hz3);have hw:But (Xs E []) w2 w3:=(zb.alloc _).trans hx xg;have Kr3:=k0 Kr2 hw;have HP3:=zh ((HP2.out.alloc _).below hb);have HB3:=b0 HB2 hw;clear Kr2 HP2 HB2 hw hb hx;have HQ0:=zh (Eq.refl (oneOf (E.tok i) [⟨#[91]⟩]));clear HQ0;go_wp2_with fail;obtain ⟨rx,h1,hr⟩:=bind_cases hr;refine (HO.out.typ h1 HP3.out).mono ?_;rintro e w4 hp;rcases rx with p | ⟨x4,i4,b4⟩
   ·
    obtain ⟨hb,rfl⟩:=hp;(try dsimp only at hr);subst hr;(try go_wp2_with fail);exact ⟨rfl,HB3.out.trans hb mg,rfl⟩
   (try dsimp only at hr);obtain ⟨hi4,-,hbb⟩:=(HF.out.typ _ _ (by omega) hil).2 _ _ h1;dsimp only at hi4 hbb;subst b4;obtain ⟨hb,hp,v,rfl,A4,c4,rfl,hrow⟩:=hp;(try dsimp only at hp hrow);have hz4:=hb.size;(try simp at hz4);have hw:=xs0 hb;have Kr4:=k0 Kr3 hw;have HP4:=zh hp;have HB4:=b0 HB3 hw;clear Kr3 HP3 HB3 hw;have Nt4:=zn (lo:=w3.heap.size) hrow;clear hrow hb hp h1;replace hr:=is_bind hr;(try dsimp only at hr);by_cases hs:oneOf (E.tok i) [⟨#[91]⟩]=true
   ·
    rw [hs];go_wp2_with fail;refine (is_calls (l:=[⟨#[123]⟩]) HE.out ((HP4.out.alloc _).alloc _) (strs_new (n:=w4.heap.size+1) [⟨#[123]⟩] (by simp) (by simp)) (old_new (by simp))).mono ?_;rintro e w5 ⟨rfl,hb⟩;have hx:=kxb (E:=E) hb;have hz5:=hx.size;(try simp at hz5);have hw:But (Xs E []) w4 w5:=((zb.alloc _).alloc _).trans hx xg;have Kr5:=k0 Kr4 hw;have Kt5:Hid (Blk w5 w4.heap.size 25 #[.int .i64 x4.k,.int .i64 x4.fr,.int .i64 x4.to,.string x4.tx,.slice A4 x4.ks.length c4]):=zh (((Blk.new' (by simp)).alloc _).but hx (ng (by omega)));have Nt5:=n0 Nt4 hw;have HP5:=zh (((HP4.out.alloc _).alloc _).below hb);have HB5:=b0 HB4 hw;clear Kr4 Nt4 HP4 HB4 hw hb hx;by_cases hq:oneOf (E.tok i4) [⟨#[123]⟩]=true
    ·
     rw [hq];rw [if_pos ⟨hs,hq⟩] at hr;clear hs hq;obtain ⟨tq0,tq1,tq2,tq3,tq4,tqf,tql⟩:=Kt5.out.cells5;go_wp2_with fail;obtain ⟨rx,h1,hr⟩:=bind_cases hr;refine (composite_calls HE.out HF.out HO.out (by omega) (iv_S (by first | omega | (simp;done) | (simp;omega)) (by omega)) (Nt5.out.keep zr fun _ h=>h) h1 HP5.out).mono ?_;rintro e w6 hp;rcases rx with p | ⟨x6,i6,b6⟩
     ·
      obtain ⟨hb,rfl⟩:=hp;(try dsimp only at hr);subst hr;(try go_wp2_with fail);exact ⟨rfl,HB5.out.trans hb mg,rfl⟩
     (try dsimp only at hr);obtain ⟨hi6,-,hbb⟩:=(composite_fin HE.out.wt HF.out (by omega) HP5.out.ilt _ _).2 _ _ h1;dsimp only at hi6 hbb;subst b6;obtain ⟨hb,hp,v,rfl,A6,c6,rfl,hrow⟩:=hp;(try dsimp only at hp hrow);have hz6:=hb.size;(try simp at hz6);have hw:=xs0 hb;have Kr6:=k0 Kr5 hw;have Kt6:=k0 Kt5 hw;have Nt6:=n0 Nt5 hw;have HP6:=zh hp;have HB6:=b0 HB5 hw;clear tq0 tq1 tq2 tq3 tq4 tqf tql Kr5 Kt5 Nt5 HP5 HB5 hw;have Nc6:Hid (NoR w6 (Iv w3.heap.size w6.heap.size) x6 [.int .i64 x6.k,.int .i64 x6.fr,.int .i64 x6.to,.string x6.tx,.slice A6 x6.ks.length c6]):=zh (NoR.mk_ (n:=x6) (hrow.keep zr fun k hk=>(by rcases hk with ⟨h1,h2⟩ | ⟨h1,h2⟩;exact ⟨by omega,by omega⟩;exact ⟨by (try simp at h1);omega,h2⟩)));clear hrow hb hp h1 Nt6;go_wp2_with fail;obtain ⟨rx,h1,hr⟩:=bind_cases hr;refine (HO.out.suffixes h1 (HP6.out.alloc _) (Nc6.out.keep (zr.za _) fun _ h=>h) (iv_S (by first | omega | (simp;done) | (simp;omega)) (by omega)) (by omega)).mono ?_;rintro e w7 hp;rcases rx with p | ⟨x7,i7,b7⟩
     ·
      obtain ⟨hb,rfl⟩:=hp;(try dsimp only at hr);subst hr;(try go_wp2_with fail);exact ⟨rfl,(HB6.out.alloc _).trans hb mg,rfl⟩
     (try dsimp only at hr);obtain ⟨hi7,-,hbb⟩:=(HF.out.suffixes _ _ _ (by omega) HP6.out.ilt).2 _ _ h1;dsimp only at hi7 hbb;subst b7;obtain ⟨hb,hp,v,rfl,A7,c7,rfl,hrow⟩:=hp;(try dsimp only at hp hrow);have hz7:=hb.size;(try simp at hz7);have hw:But (Xs E []) w6 w7:=(zb.alloc _).trans hb xg;have Kr7:=k0 Kr6 hw;have Kt7:=k0 Kt6 hw;have Kx7:Hid (Blk w7 w6.heap.size 25 #[.int .i64 x6.k,.int .i64 x6.fr,.int .i64 x6.to,.string x6.tx,.slice A6 x6.ks.length c6]):=zh ((Blk.new' (by simp)).but hb (ng (by omega)));have Nc7:=n0 Nc6 hw;have HP7:=zh hp;have HB7:=b0 HB6 hw;clear Kr6 Kt6 Nc6 HP6 HB6 hw;have Ns7:Hid (NoR w7 (Iv w3.heap.size w7.heap.size) x7 [.int .i64 x7.k,.int .i64 x7.fr,.int .i64 x7.to,.string x7.tx,.slice A7 x7.ks.length c7]):=zh (NoR.mk_ (n:=x7) (hrow.keep zr fun k hk=>(by rcases hk with ⟨h1,h2⟩ | ⟨h1,h2⟩;exact ⟨by omega,by omega⟩;exact ⟨by (try simp at h1);omega,h2⟩)));clear hrow hb hp h1 Nc7;go_wp2_with fail;refine (HO.out.binary hr HP7.out (Ns7.out.keep zr fun _ h=>h) (iv_S (by first | omega | (simp;done) | (simp;omega)) (by omega)) (by decide) (by omega)).mono ?_;rintro e w8 hp;rcases r with p | ⟨x,i2,b2⟩
     ·
      obtain ⟨hb,rfl⟩:=hp;go_wp2_with fail;exact ⟨rfl,HB7.out.trans hb mg,rfl⟩
     obtain ⟨hb,hp,v,rfl,A2,c2,rfl,hrow⟩:=hp;(try dsimp only at hp hrow);have hz8:=hb.size;(try simp at hz8);have hw:=xs0 hb;have Kr8:=k0 Kr7 hw;have Kt8:=k0 Kt7 hw;have Kx8:=k0 Kx7 hw;have Ns8:=n0 Ns7 hw;have HP8:=zh hp;have HB8:=b0 HB7 hw;clear Kr7 Kt7 Kx7 Ns7 HP7 HB7 hw;have Nx8:Hid (RowN w8 (Iv w3.heap.size w8.heap.size) (.slice A2 x.ks.length c2) x.ks):=zh (hrow.keep zr fun k hk=>(by rcases hk with ⟨h1,h2⟩ | ⟨h1,h2⟩;exact ⟨by omega,by omega⟩;exact ⟨by (try simp at h1);omega,h2⟩));obtain ⟨rq0,rq1,rq2,rq3,rq4,rqf,rql⟩:=Kr8.out.cells5;go_wp2_with fail;exact node_ret (r:=w.heap.size) Tryz.results119 (by rfl) (Kr8.out.put5 _ _ _ _ _) (by rfl) ⟨(HB8.out.set5 (.inl (by omega)) _ _ _ _ _),(HP8.out.far5 (by omega) (by omega) _ _ _ _ _),_,rfl,_,_,rfl,(rk Nx8 (zr.set5 (iv (by omega)) _ _ _ _ _) (by omega) (by first|omega|simp<;>omega))⟩
    ·
     replace hq:=Bool.eq_false_iff.2 hq;rw [hq];rw [if_neg (fun e=>Bool.eq_false_iff.1 hq e.2)] at hr;clear hs hq;obtain ⟨tq0,tq1,tq2,tq3,tq4,tqf,tql⟩:=Kt5.out.cells5;obtain ⟨rq0,rq1,rq2,rq3,rq4,rqf,rql⟩:=Kr5.out.cells5;go_wp2_with fail;obtain rfl:=pure_end hr;exact node_ret (r:=w.heap.size) Tryz.results119 (by rfl) (Kr5.out.put5 _ _ _ _ _) (by rfl) ⟨(HB5.out.set5 (.inl (by omega)) _ _ _ _ _),(HP5.out.far5 (by omega) (by omega) _ _ _ _ _),_,rfl,_,_,rfl,(nk Nt5 (zr.set5 (iv (by omega)) _ _ _ _ _) (by omega) (by first|omega|simp<;>omega)).row_⟩
   ·
    rw [if_neg (fun e=>hs e.1)] at hr;replace hs:=Bool.eq_false_iff.2 hs;rw [hs];clear hs;obtain ⟨rq0,rq1,rq2,rq3,rq4,rqf,rql⟩:=Kr4.out.cells5;go_wp2_with fail;obtain rfl:=pure_end hr;exact node_ret (r:=w.heap.size) Tryz.results119 (by rfl) ((Kr4.out.put5 _ _ _ _ _).alloc _) (by rfl) ⟨((HB4.out.set5 (.inl (by omega)) _ _ _ _ _).alloc _),((HP4.out.far5 (by omega) (by omega) _ _ _ _ _).alloc _),_,rfl,_,_,rfl,(nk Nt4 ((zr.set5 (iv (by omega)) _ _ _ _ _).za _) (by omega) (by first|omega|simp<;>omega)).row_⟩
  ·
   replace hq:=Bool.eq_false_iff.2 hq;rw [hq];(try rw [if_neg (Bool.eq_false_iff.1 hq)] at hr);clear hq;go_wp2_with fail;refine (HO.out.expr hr HP1.out).mono ?_;rintro e w2 hp;rcases r with p | ⟨x,i2,b2⟩
   ·
    obtain ⟨hb,rfl⟩:=hp;go_wp2_with fail;exact ⟨rfl,HB1.out.trans hb mg,rfl⟩
   obtain ⟨hb,hp,v,rfl,A2,c2,rfl,hrow⟩:=hp;(try dsimp only at hp hrow);have hz2:=hb.size;(try simp at hz2);have hw:=xs0 hb;have Kr2:=k0 Kr1 hw;have HP2:=zh hp;have HB2:=b0 HB1 hw;clear Kr1 HP1 HB1 hw;have Nx2:Hid (RowN w2 (Iv w1.heap.size w2.heap.size) (.slice A2 x.ks.length c2) x.ks):=zh (hrow.keep zr fun k hk=>⟨by have h1:=hk.1;(try simp at h1);omega,hk.2⟩);obtain ⟨rq0,rq1,rq2,rq3,rq4,rqf,rql⟩:=Kr2.out.cells5;go_wp2_with fail;exact node_ret (r:=w.heap.size) Tryz.results119 (by rfl) (Kr2.out.put5 _ _ _ _ _) (by rfl) ⟨(HB2.out.set5 (.inl (by omega)) _ _ _ _ _),(HP2.out.far5 (by omega) (by omega) _ _ _ _ _),_,rfl,_,_,rfl,(rk Nx2 (zr.set5 (iv (by omega)) _ _ _ _ _) (by omega) (by first|omega|simp<;>omega))⟩
end
end Go.Proofs.YtfmgdmeopakdaaaGreatDoor
