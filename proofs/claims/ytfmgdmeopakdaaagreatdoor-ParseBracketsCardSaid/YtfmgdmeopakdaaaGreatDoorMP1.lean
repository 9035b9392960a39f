/- Parts of one proof. -/
import Derived.WalkKit
import Derived.Below
import Derived.Lib.Hide
import Derived.Laws.OwnMore
import Derived.Maps.AppendAt
import Derived.Deep.AppendLies
import Derived.Deep.Draws
set_option linter.unusedVariables false
set_option linter.unusedSimpArgs false
namespace Go.Proofs.YtfmgdmeopakdaaaGreatDoor
open Go Go.RowKit
def Hd (p : Prop) : Prop := p
theorem Hd.o {p : Prop} (h : Hd p) : p := h
theorem zh {p : Prop} (h : p) : Hd p := h
theorem cr {α : Type _} {xs : List α} {i : Nat} (h : i < xs.toArray.size) : xs.toArray[i] = xs[i]'(by simpa using h) := List.getElem_toArray h
theorem cj {α : Type _} (x : α) (l : List α) (h : 0 < (x :: l).length) : (x :: l)[0] = x := List.getElem_cons_zero x l h
theorem ch {α : Type _} (x : α) (l : List α) (i : Nat) (h : i + 1 < (x :: l).length) : (x :: l)[i + 1] = l[i]'(by simpa using h) := List.getElem_cons_succ x l i h
theorem UC {α : Type _} (l : List α) (i : Nat) (x : α) : l.toArray.setIfInBounds i x = (l.set i x).toArray := List.setIfInBounds_toArray l i x
theorem UB {α : Type _} {y : α} {l : List α} {x : α} : (y :: l).set 0 x = x :: l := List.set_cons_zero
theorem VB {α : Type _} {y : α} {l : List α} {i : Nat} {x : α} : (y :: l).set (i + 1) x = y :: l.set i x := List.set_cons_succ
theorem drop_at {α:Type} (l:List α) (i:Nat) (h:i<l.length):l.drop i=l[i] :: l.drop (i+1):=List.drop_eq_getElem_cons h
theorem drop_end {α:Type} (l:List α) (i:Nat) (h:l.length≤i):l.drop i=[]:=List.drop_eq_nil_of_le h
def aI (S:Nat→Prop) (w w':World):Prop:=∀ b,S b→w'.heap[b]? = w.heap[b]?
def Hg (S:Nat→Prop) (w:World):Prop:=∀ b,S b→b<w.heap.size
def kE (w w':World) (b:Nat):Prop:=w.heap.size≤b∧b<w'.heap.size
theorem aI.cell {S:Nat→Prop} {w w':World} (h:aI S w w') {b:Nat} (hb:S b) (o:Nat):w'.cell? ⟨b,o,none⟩=w.cell? ⟨b,o,none⟩:=
  World.cell?_of_block (a:=⟨b,o,none⟩) (h b hb)
theorem aI.of_below {S:Nat→Prop} {B:Nat} {w w':World} (h:Below B w w') (hS:∀ b,S b→b<B):aI S w w':=fun b hb=>h.block b (hS b hb)
theorem aI.of_grown {S:Nat→Prop} {row:Option Nat} {w w':World} (h:w.grownBy w' row) (hS:Hg S w) (hr:∀ b,S b→some b≠row):aI S w w':=
  fun b hb=>h.block b (hS b hb) (hr b hb)
theorem aI.trans {S:Nat→Prop} {a b c:World} (h:aI S a b) (k:aI S b c):aI S a c:=fun i hi=>(k i hi).trans (h i hi)
theorem Hg.below {S:Nat→Prop} {B:Nat} {w w':World} (h:Hg S w) (hb:Below B w w'):Hg S w':=fun b hs=>Nat.lt_of_lt_of_le (h b hs) hb.size
theorem cell_below {B:Nat} {W w1:World} (hb:Below B W w1) {b o:Nat} (h:b<B):w1.cell? ⟨b,o,none⟩=W.cell? ⟨b,o,none⟩:=hb.cell (p:=⟨b,o,none⟩) h
theorem frozen_below {B:Nat} {W w1:World} (hb:Below B W w1) {b o:Nat} (h:b<B):w1.frozen? ⟨b,o,none⟩=W.frozen? ⟨b,o,none⟩:=hb.frozen (p:=⟨b,o,none⟩) h
theorem below_drewN {B:Nat} {a w:World} (h:Below B a w) (n:Nat):Below B a (w.drewN n):=h.trans ⟨rfl,rfl,rfl,Nat.le_refl _,fun _ _=>rfl⟩
theorem below_of_grown {w w':World} (h:w.grownBy w' none):Below w.heap.size w w':=⟨h.os,h.tape,h.output,h.size,fun k hk=>h.block k hk (by simp)⟩
theorem vF {w w':World} (h:Below w.heap.size w w') (row:Option Nat):w.grownBy w' row:=⟨h.os,h.tape,h.output,h.size,fun k hk _=>h.block k hk⟩
def Row (w:World) (S:Nat→Prop) (size:Nat) (v:Value) (n:Nat) (xs:List Value):Prop:=
  xs.length=n * size∧∃ A cap,v = .slice A n cap∧n≤cap∧cap≤maxLen∧(A=none→cap=0)∧
    (0<n→∃ b o,A=some ⟨b,o,none⟩∧S b∧∀ j u,xs[j]? = some u→w.cell? ⟨b,o+j,none⟩=some u)
section
variable {w w':World} {S S':Nat→Prop} {size n:Nat} {v:Value} {xs:List Value}
theorem Row.keep (h:Row w S size v n xs) (hs:aI S w w'):Row w' S size v n xs:=by
  obtain ⟨h1,A,cap,rfl,h2,h3,h0,h4⟩:=h;refine ⟨h1,A,cap,rfl,h2,h3,h0,fun hn=>?_⟩;obtain ⟨b,o,rfl,h5,h7⟩:=h4 hn;exact ⟨b,o,rfl,h5,fun j u hu=>(hs.cell h5 _).trans (h7 j u hu)⟩
theorem Row.more (h:Row w S size v n xs) (h1:∀ b,S b→S' b):Row w S' size v n xs:=by
  obtain ⟨g1,A,cap,rfl,g2,g3,h0,g4⟩:=h;refine ⟨g1,A,cap,rfl,g2,g3,h0,fun hn=>?_⟩;obtain ⟨b,o,rfl,h5,h7⟩:=g4 hn;exact ⟨b,o,rfl,h1 b h5,h7⟩
theorem Row.form (h:Row w S size v n xs):∃ A cap,v = .slice A n cap∧n≤9223372036854775807:=by
  obtain ⟨h1,A,cap,rfl,h2,h3,_⟩:=h;exact ⟨A,cap,rfl,by unfold maxLen at h3;omega⟩
theorem Row.nil_:Row w S size (.slice none 0 0) 0 []:=⟨by simp,none,0,rfl,Nat.le_refl _,Nat.zero_le _,fun _=>rfl,fun h=>absurd h (by omega)⟩
theorem Row.at1 (h:Row w S 1 v n xs) {k:Nat} (hk:k<n):∃ b o cap u,v = .slice (some ⟨b,o,none⟩) n cap∧S b∧xs[k]? = some u∧w.cell? ⟨b,o+k,none⟩=some u:=by
  obtain ⟨h1,A,cap,rfl,h2,h3,h0,h4⟩:=h;obtain ⟨b,o,rfl,h5,h7⟩:=h4 (by omega);(have hl:k<xs.length:=by omega);exact ⟨b,o,cap,xs[k],rfl,h5,List.getElem?_eq_getElem hl,h7 k _ (List.getElem?_eq_getElem hl)⟩
theorem Row.of_own {base:Nat} {e:TypeId} (h:w.ownsRow base e size v n xs) (hS:∀ b,v.ownBlock=some b→S b):Row w S size v n xs:=by
  refine ⟨h.1,?_⟩;have h':=h;rcases h.2 with ⟨rfl,rfl⟩ | ⟨g,cap,cur,rfl,hg,hh,Rr,R0,Xd,ht⟩
  · exact ⟨none,0,rfl,Nat.le_refl _,Nat.zero_le _,fun _=>rfl,fun h=>absurd h (by omega)⟩
  · refine ⟨_,cap,rfl,Rr,R0,(fun e=>by cases e),fun hn=>⟨g,0,rfl,hS g rfl,fun j u hu=>?_⟩⟩
    have:=h'.cells (g:=g) rfl j u hu;rw [Nat.zero_add];unfold Addr.add at this;split at this
    · rename_i h0;subst h0;exact this
    · simpa using this
end
inductive T where
  | mk (k:Int) (nm:ByteArray) (n:Int) (f:Bool) (ns:List ByteArray) (ms:List Bool) (ks:List T)
def T.kd:T→Int | .mk k _ _ _ _ _ _=>k
def T.nm:T→ByteArray | .mk _ nm _ _ _ _ _=>nm
def T.n:T→Int | .mk _ _ n _ _ _ _=>n
def T.fl:T→Bool | .mk _ _ _ f _ _ _=>f
def T.ns:T→List ByteArray | .mk _ _ _ _ ns _ _=>ns
def T.ms:T→List Bool | .mk _ _ _ _ _ ms _=>ms
def T.ks:T→List T | .mk _ _ _ _ _ _ ks=>ks
mutual
def Ah (w:World) (S:Nat→Prop):T→List Value→Prop
  | .mk k nm n f ns ms ks,cs=>∃ vn vm vk xs,cs=[.int .i64 k,.string nm,.int .i64 n,.bool f,vn,vm,vk]∧
      Row w S 1 vn ns.length (ns.map .string)∧Row w S 1 vm ms.length (ms.map .bool)∧
      Row w S 7 vk ks.length xs∧jC w S ks xs
def jC (w:World) (S:Nat→Prop):List T→List Value→Prop
  | [],cs=>cs=[]
  | t :: ts,cs=>∃ c1 c2,cs=c1 ++ c2∧Ah w S t c1∧jC w S ts c2
end
def Ai (w:World) (S:Nat→Prop) (v:Value) (ts:List T):Prop:=∃ xs,Row w S 7 v ts.length xs∧jC w S ts xs
mutual
theorem Ah.keep {w w':World} {S S':Nat→Prop} (hs:aI S w w') (h1:∀ b,S b→S' b):∀ {t:T} {cs:List Value},Ah w S t cs→Ah w' S' t cs
  | .mk k nm n f ns ms ks,cs,h=>by
    simp only [Ah] at h ⊢;obtain ⟨vn,vm,vk,xs,rfl,a,b,c,d⟩:=h;exact ⟨vn,vm,vk,xs,rfl,(a.keep hs).more h1,(b.keep hs).more h1,(c.keep hs).more h1,jC.keep hs h1 d⟩
theorem jC.keep {w w':World} {S S':Nat→Prop} (hs:aI S w w') (h1:∀ b,S b→S' b):∀ {ts:List T} {cs:List Value},jC w S ts cs→jC w' S' ts cs
  | [],cs,h=>by simp only [jC] at h ⊢;exact h
  | t :: ts,cs,h=>by
    simp only [jC] at h ⊢;obtain ⟨c1,c2,e,a,b⟩:=h;exact ⟨c1,c2,e,Ah.keep hs h1 a,jC.keep hs h1 b⟩
end
theorem Ai.keep {w w':World} {S S':Nat→Prop} {v:Value} {ts:List T} (h:Ai w S v ts) (hs:aI S w w') (h1:∀ b,S b→S' b):Ai w' S' v ts:=by
  obtain ⟨xs,a,b⟩:=h;exact ⟨xs,(a.keep hs).more h1,b.keep hs h1⟩
theorem Ah.len {w:World} {S:Nat→Prop}:∀ {t:T} {cs:List Value},Ah w S t cs→cs.length=7
  | .mk ..,cs,h=>by simp only [Ah] at h;obtain ⟨_,_,_,_,rfl,_⟩:=h;rfl
theorem jC.len {w:World} {S:Nat→Prop}:∀ {ts:List T} {cs:List Value},jC w S ts cs→cs.length=ts.length * 7
  | [],cs,h=>by simp only [jC] at h;subst h;rfl
  | t :: ts,cs,h=>by
    simp only [jC] at h;obtain ⟨c1,c2,rfl,a,b⟩:=h;rw [List.length_append,a.len,b.len,List.length_cons];omega
theorem jC.append {w:World} {S:Nat→Prop}:∀ {ts us:List T} {cs ds:List Value},jC w S ts cs→jC w S us ds→jC w S (ts ++ us) (cs ++ ds)
  | [],us,cs,ds,h,h'=>by simp only [jC] at h;subst h;simpa using h'
  | t :: ts,us,cs,ds,h,h'=>by
    simp only [jC,List.cons_append] at h ⊢;obtain ⟨c1,c2,rfl,a,b⟩:=h;exact ⟨c1,c2 ++ ds,by simp,a,b.append h'⟩
theorem jC.one {w:World} {S:Nat→Prop} {t:T} {cs:List Value} (h:Ah w S t cs):jC w S [t] cs:=by
  simp only [jC];exact ⟨cs,[],by simp,h,rfl⟩
theorem jC.at_ {w:World} {S:Nat→Prop}:∀ {ts:List T} {cs:List Value} (_:jC w S ts cs) (i:Nat) (h:i<ts.length),
    Ah w S ts[i] ((cs.drop (i * 7)).take 7)
  | t :: ts,cs,h,0,_=>by
    simp only [jC] at h;obtain ⟨c1,c2,rfl,a,b⟩:=h
    simpa [List.take_append_of_le_length,a.len,List.take_of_length_le] using a
  | t :: ts,cs,h,i+1,hi=>by
    simp only [jC] at h;obtain ⟨c1,c2,rfl,a,b⟩:=h;have:=b.at_ i (by simpa using hi)
    have e:(c1 ++ c2).drop ((i+1) * 7)=c2.drop (i * 7):=by
      rw [List.drop_append,List.drop_eq_nil_of_le (by rw [a.len];omega),a.len,List.nil_append];congr 1;omega
    rw [e]
    simpa using this
theorem list7:∀ {l:List Value},l.length=7→∃ c0 c1 c2 c3 c4 c5 c6,l=[c0,c1,c2,c3,c4,c5,c6]
  | [c0,c1,c2,c3,c4,c5,c6],_=>⟨c0,c1,c2,c3,c4,c5,c6,rfl⟩
def Qi (w:World) (b o:Nat) (c0 c1 c2 c3 c4 c5 c6:Value):Prop:=
  w.cell? ⟨b,o,none⟩=some c0∧w.cell? ⟨b,o+1,none⟩=some c1∧w.cell? ⟨b,o+2,none⟩=some c2∧
       w.cell? ⟨b,o+3,none⟩=some c3∧w.cell? ⟨b,o+4,none⟩=some c4∧w.cell? ⟨b,o+5,none⟩=some c5∧
       w.cell? ⟨b,o+6,none⟩=some c6
theorem Ah.forms {w:World} {S:Nat→Prop} {t:T} {cs:List Value} (h:Ah w S t cs):∃ A1 c1 A2 c2 A3 c3,
    cs=[.int .i64 t.kd,.string t.nm,.int .i64 t.n,.bool t.fl,.slice A1 t.ns.length c1,.slice A2 t.ms.length c2,.slice A3 t.ks.length c3]∧
    Row w S 1 (.slice A1 t.ns.length c1) t.ns.length (t.ns.map .string)∧Row w S 1 (.slice A2 t.ms.length c2) t.ms.length (t.ms.map .bool)∧Ai w S (.slice A3 t.ks.length c3) t.ks:=by
  obtain ⟨k,nm,n,f,ns,ms,ks⟩:=t;simp only [Ah] at h;obtain ⟨vn,vm,vk,xs,rfl,a,b,c,d⟩:=h;obtain ⟨A1,c1,rfl,_⟩:=a.form;obtain ⟨A2,c2,rfl,_⟩:=b.form;obtain ⟨A3,c3,rfl,_⟩:=c.form;exact ⟨A1,c1,A2,c2,A3,c3,rfl,a,b,⟨xs,c,d⟩⟩
theorem Ah.mk {w:World} {S:Nat→Prop} {t:T} {A1 A2 A3:Option Addr} {c1 c2 c3:Nat} (h1:Row w S 1 (.slice A1 t.ns.length c1) t.ns.length (t.ns.map .string))
    (h2:Row w S 1 (.slice A2 t.ms.length c2) t.ms.length (t.ms.map .bool)) (h3:Ai w S (.slice A3 t.ks.length c3) t.ks) :
    Ah w S t [.int .i64 t.kd,.string t.nm,.int .i64 t.n,.bool t.fl,.slice A1 t.ns.length c1,.slice A2 t.ms.length c2,.slice A3 t.ks.length c3]:=by
  obtain ⟨k,nm,n,f,ns,ms,ks⟩:=t;obtain ⟨xs,a,b⟩:=h3;simp only [Ah];exact ⟨_,_,_,xs,rfl,h1,h2,a,b⟩
theorem Ai.at_ {w:World} {S:Nat→Prop} {v:Value} {ts:List T} (h:Ai w S v ts) {i:Nat} (hl:i<ts.length) :
    ∃ b o cap A1 c1 A2 c2 A3 c3,v = .slice (some ⟨b,o,none⟩) ts.length cap∧S b∧
      Qi w b (o+i * 7) (.int .i64 ts[i].kd) (.string ts[i].nm) (.int .i64 ts[i].n) (.bool ts[i].fl) (.slice A1 ts[i].ns.length c1) (.slice A2 ts[i].ms.length c2) (.slice A3 ts[i].ks.length c3)∧
      Ah w S ts[i] [.int .i64 ts[i].kd,.string ts[i].nm,.int .i64 ts[i].n,.bool ts[i].fl,.slice A1 ts[i].ns.length c1,.slice A2 ts[i].ms.length c2,.slice A3 ts[i].ks.length c3]:=by
  obtain ⟨xs,⟨h1,A,cap,rfl,h2,h3,h0,h4⟩,ht⟩:=h;obtain ⟨b,o,rfl,cB,hc⟩:=h4 (by omega);have hr:=ht.at_ i hl;obtain ⟨A1,c1,A2,c2,A3,c3,e,_⟩:=hr.forms;rw [e] at hr
  have hx:∀ j u,[.int .i64 ts[i].kd,.string ts[i].nm,.int .i64 ts[i].n,.bool ts[i].fl,.slice A1 ts[i].ns.length c1,.slice A2 ts[i].ms.length c2,.slice A3 ts[i].ks.length c3][j]? = some u→w.cell? ⟨b,o+i * 7+j,none⟩=some u:=by
    intro j u hj;rw [← e,List.getElem?_take] at hj;split at hj
    · rw [List.getElem?_drop] at hj
      rw [Nat.add_assoc];exact hc _ _ hj
    · cases hj
  exact ⟨b,o,cap,A1,c1,A2,c2,A3,c3,rfl,cB,⟨hx 0 _ rfl,hx 1 _ rfl,hx 2 _ rfl,hx 3 _ rfl,hx 4 _ rfl,hx 5 _ rfl,hx 6 _ rfl⟩,hr⟩
theorem Ai.form {w:World} {S:Nat→Prop} {v:Value} {ts:List T} (h:Ai w S v ts):∃ A cap,v = .slice A ts.length cap∧ts.length≤9223372036854775807:=by
  obtain ⟨xs,a,_⟩:=h;exact a.form
mutual
def T.sz:T→Nat
  | .mk _ _ _ _ _ _ ks=>T.szL ks+1
def T.szL:List T→Nat
  | []=>0
  | t :: ts=>t.sz+T.szL ts+1
end
theorem Lt:∀ {ks:List T} {i:Nat} (h:i<ks.length),ks[i].sz<T.szL ks
  | t :: ts,0,h=>by simp only [T.szL,cj];omega
  | t :: ts,i+1,h=>by
    have:=Lt (ks:=ts) (i:=i) (by simpa using h);simp only [T.szL,ch];omega
theorem sz_mk {k:Int} {nm:ByteArray} {n:Int} {f:Bool} {ns:List ByteArray} {ms:List Bool} {ks:List T}:(T.mk k nm n f ns ms ks).sz=T.szL ks+1:=by rw [T.sz]
def PT:Nat:=140737488355328
def Nf (n:Int):Prop:=-9223372036854775808≤n∧n≤9223372036854775807
mutual
def T.ok:T→Prop
  | .mk k nm n _ ns ms ks=>Nf k∧Nf n∧nm.size≤PT∧(∀ s ∈ ns,s.size≤PT)∧ns.length * 16≤PT∧ms.length≤PT∧ks.length * 112≤PT∧T.okL ks
def T.okL:List T→Prop
  | []=>True
  | t :: ts=>t.ok∧T.okL ts
end
theorem FF:∀ {ts:List T},T.okL ts↔∀ t ∈ ts,t.ok
  | []=>by simp [T.okL]
  | t :: ts=>by simp [T.okL,FF (ts:=ts)]
theorem okL_at {ts:List T} (h:T.okL ts) {i:Nat} (hi:i<ts.length):ts[i].ok:=FF.1 h _ (List.getElem_mem hi)
def aj (w:World) (g:Nat) (t:TypeId) (cs:Array Value):Prop:=w.heap[g]? = some (.cells cs t (0,0))
section
variable {w w':World} {g:Nat} {t:TypeId} {cs:Array Value}
theorem aj.lt (h:aj w g t cs):g<w.heap.size:=by
  rcases Nat.lt_or_ge g w.heap.size with fs | Eb
  · exact fs
  · unfold aj at h;rw [Array.getElem?_eq_none Eb] at h;cases h
theorem aj.cell (h:aj w g t cs) (i:Nat):w.cell? ⟨g,i,none⟩=cs[i]?:=cell_of_row w g i cs t (0,0) h
theorem aj.frozen (h:aj w g t cs) (i:Nat):w.frozen? ⟨g,i,none⟩=false:=by
  unfold aj at h;simp [World.frozen?,h]
theorem aj.new (w:World) (t:TypeId) (cs:Array Value):aj (w.alloc (.cells cs t)) w.heap.size t cs:=heap_alloc_new w _
theorem aj.drew (h:aj w g t cs):aj w.drew g t cs:=h
theorem aj.drewN (h:aj w g t cs) (n:Nat):aj (w.drewN n) g t cs:=h
theorem aj.alloc (h:aj w g t cs) (o:Obj):aj (w.alloc o) g t cs:=(Below.heap_alloc w o g h.lt).trans h
theorem aj.set_ (h:aj w g t cs) (i:Nat) (u:Value):aj (w.setCell ⟨g,i,none⟩ u) g t (cs.setIfInBounds i u):=by
  unfold aj at h ⊢;simp [World.setCell,Array.getElem?_modify,h]
theorem aj.far (h:aj w g t cs) {p:Addr} (hp:g≠p.block) (u:Value):aj (w.setCell p u) g t cs:=(Below.heap_setCell w p u g hp).trans h
theorem aj.below {B:Nat} (h:aj w g t cs) (hb:Below B w w') (hg:g<B):aj w' g t cs:=(hb.block g hg).trans h
theorem aj.grown {row:Option Nat} (h:aj w g t cs) (hb:w.grownBy w' row) (hg:some g≠row):aj w' g t cs:=(hb.block g h.lt hg).trans h
end
theorem aj.cells7 {w:World} {g:Nat} {t:TypeId} {c0 c1 c2 c3 c4 c5 c6:Value} (h:aj w g t #[c0,c1,c2,c3,c4,c5,c6]) :
    w.cell? ⟨g,0,none⟩=some c0∧w.cell? ⟨g,1,none⟩=some c1∧w.cell? ⟨g,2,none⟩=some c2∧w.cell? ⟨g,3,none⟩=some c3∧w.cell? ⟨g,4,none⟩=some c4∧
    w.cell? ⟨g,5,none⟩=some c5∧w.cell? ⟨g,6,none⟩=some c6∧(∀ i,w.frozen? ⟨g,i,none⟩=false):=
  ⟨h.cell 0,h.cell 1,h.cell 2,h.cell 3,h.cell 4,h.cell 5,h.cell 6,h.frozen⟩
theorem aI.refl (S:Nat→Prop) (w:World):aI S w w:=fun _ _=>rfl
theorem aI.set_ {S:Nat→Prop} {a b:World} (h:aI S a b) {p:Addr} (hp:¬ S p.block) (u:Value):aI S a (b.setCell p u):=
  fun k hk=>(Below.heap_setCell b p u k (fun e=>hp (e ▸ hk))).trans (h k hk)
theorem aI.alloc {S:Nat→Prop} {a b:World} (h:aI S a b) (hS:Hg S b) (o:Obj):aI S a (b.alloc o):=
  fun k hk=>(Below.heap_alloc b o k (hS k hk)).trans (h k hk)
theorem cA {w:World} {base:Nat} {e:TypeId} {size n:Nat} {v:Value} {xs:List Value} (h:w.ownsRow base e size v n xs):∃ A c,v = .slice A n c:=by
  rcases h.2 with ⟨rfl,rfl⟩ | ⟨g,cap,cur,rfl,_⟩
  · exact ⟨_,_,rfl⟩
  · exact ⟨_,_,rfl⟩
theorem own_below {w w':World} {base:Nat} {e:TypeId} {size n:Nat} {v:Value} {xs:List Value} (h:w.ownsRow base e size v n xs) (hb:Below w.heap.size w w'):w'.ownsRow base e size v n xs:=
  h.kept (vF hb none) (by cases h':v.ownBlock <;> simp)
theorem one_strs (l:List ByteArray):∀ u ∈ l.map Value.string,u.oneCell'=true:=by
  intro u h;obtain ⟨s,_,rfl⟩:=List.mem_map.1 h;rfl
theorem one_bools (l:List Bool):∀ u ∈ l.map Value.bool,u.oneCell'=true:=by
  intro u h;obtain ⟨s,_,rfl⟩:=List.mem_map.1 h;rfl
def TRes (w:World) (t:T) (e:Ending) (w':World):Prop:=∃ cs:List Value,e = .returned (.agg cs.toArray)∧Ah w' (kE w w') t cs∧Below w.heap.size w w'
def TsRes (E:TypeId) (w:World) (ts:List T) (e:Ending) (w':World):Prop:=
  ∃ v xs,e = .returned v∧w'.ownsRow w.heap.size E 7 v ts.length xs∧jC w' (fun b=>kE w w' b∧v.ownBlock≠some b) ts xs∧Below w.heap.size w w'
theorem zr {S : Nat → Prop} {w : World} : aI S w w := aI.refl _ _
structure Tk where
  k:Int
  fr:Int
  to:Int
  tx:ByteArray
inductive No where
  | mk (k fr to:Int) (tx:ByteArray) (ks:List No)
def No.k:No→Int | .mk k _ _ _ _=>k
def No.fr:No→Int | .mk _ fr _ _ _=>fr
def No.to:No→Int | .mk _ _ to _ _=>to
def No.tx:No→ByteArray | .mk _ _ _ tx _=>tx
def No.ks:No→List No | .mk _ _ _ _ ks=>ks
def bo:No:=.mk 7 0 0 ⟨#[]⟩ []
abbrev Ps:=Nat×Bool
abbrev PR (α:Type):=Option (Except Int (α×Ps))
def PM (α:Type):=Ps→PR α
instance:Monad PM where
  pure a:=fun s=>some (.ok (a,s))
  bind x f:=fun s=>match x s with
    | none=>none
    | some (.error p)=>some (.error p)
    | some (.ok (a,s'))=>f a s'
def iJ (t:Tk) (l:List ByteArray):Bool:=l.any fun x=>decide (t.tx=x)
def oneOf (t:Tk) (l:List ByteArray):Bool:=(decide (t.k=5) || decide (t.k=4)) && iJ t l
def dm (t:Tk):Nat:=
  if t.k≠5 then 0 else if iJ t [⟨#[124,124]⟩] then 1 else if iJ t [⟨#[38,38]⟩] then 2
  else if iJ t [⟨#[61,61]⟩,⟨#[33,61]⟩,⟨#[60]⟩,⟨#[60,61]⟩,⟨#[62]⟩,⟨#[62,61]⟩] then 3 else if iJ t [⟨#[43]⟩,⟨#[45]⟩] then 4 else if iJ t [⟨#[42]⟩,⟨#[47]⟩,⟨#[37]⟩] then 5 else 0
def j1 (t:Tk):Bool:=(decide (t.k=1) || decide (t.k=2) || decide (t.k=3)) || oneOf t [⟨#[45]⟩,⟨#[33]⟩,⟨#[38]⟩,⟨#[42]⟩,⟨#[60,45]⟩,⟨#[40]⟩,⟨#[102,117,110,99]⟩,⟨#[91]⟩]
def lU (t:Tk):Bool:=decide (t.k=1) || oneOf t [⟨#[42]⟩,⟨#[91]⟩,⟨#[99,104,97,110]⟩,⟨#[102,117,110,99]⟩,⟨#[115,116,114,117,99,116]⟩,⟨#[105,110,116,101,114,102,97,99,101]⟩,⟨#[40]⟩]
section
variable (ts:List Tk)
def ap (i:Nat):Tk:=ts.getD i ⟨7,0,0,⟨#[]⟩⟩
def fo:PM Tk:=fun s=>some (.ok (ap ts s.1,s))
def me (n:Nat):PM Tk:=fun s=>some (.ok (ap ts (min (s.1+n) (ts.length - 1)),s))
def kh {α:Type}:PM α:=fun s=>some (.error (ap ts s.1).fr)
def rp (l:List ByteArray):PM Bool:=fun s=>some (.ok (oneOf (ap ts s.1) l,s))
def h_:PM Unit:=fun s=>some (.ok ((),(s.1+1,s.2)))
def tN:PM Unit:=fun s=>some (.ok ((),(s.1 - 1,s.2)))
def wj:PM Bool:=fun s=>some (.ok (s.2,s))
def lG:PM Tk:=fun s=>some (.ok (ap ts s.1,(s.1+1,s.2)))
def bc (l:List ByteArray):PM Bool:=fun s=>if oneOf (ap ts s.1) l=true then some (.ok (true,(s.1+1,s.2))) else some (.ok (false,s))
def cE (x:ByteArray):PM Tk:=fun s=>if oneOf (ap ts s.1) [x]=true then some (.ok (ap ts s.1,(s.1+1,s.2))) else some (.error (ap ts s.1).fr)
def iI:PM Unit:=fun s=>if (ap ts s.1).k=6 then some (.ok ((),(s.1+1,s.2))) else some (.error (ap ts s.1).fr)
def dp:PM No:=fun s=>if (ap ts s.1).k=1 then some (.ok (.mk 40 (ap ts s.1).fr (ap ts s.1).to (ap ts s.1).tx [],(s.1+1,s.2))) else some (.error (ap ts s.1).fr)
def kC:PM Int:=fun s=>some (.ok ((ap ts s.1).fr,s))
def M7:PM Int:=fun s=>some (.ok ((ap ts (s.1 - 1)).to,s))
def bd (k fr:Int) (tx:ByteArray) (ks:List No):PM No:=fun s=>some (.ok (.mk k fr (ap ts (s.1 - 1)).to tx ks,s))
def oH (k:Int):PM No:=fun s=>some (.ok (.mk k (ap ts s.1).fr (ap ts s.1).fr ⟨#[]⟩ [],s))
def fP {α:Type} (q:Bool) (x:PM α):PM α:=fun s=>match x (s.1,q) with
  | none=>none
  | some (.error p)=>some (.error p)
  | some (.ok (a,s'))=>some (.ok (a,(s'.1,s.2)))
def fp {σ:Type} (closing:ByteArray) (least:Nat) (one:σ→PM (No×σ)):Nat→σ→List No→PM (List No×σ)
  | 0,_,_=>fun _=>none
  | f+1,u,out=>do
    let q ← rp ts [closing]
    if q=true∧¬ out.length<least then pure (out,u)
    else do
      let x ← one u
      let c ← bc ts [⟨#[44]⟩]
      if c=true then fp closing least one f x.2 (out ++ [x.1]) else pure (out ++ [x.1],x.2)
def rowP (ends:Tk→Bool) (one:PM (No×Bool)):Nat→List No→PM (List No)
  | 0,_=>fun _=>none
  | f+1,out=>do
    let t ← fo ts
    if ends t=true then pure out
    else do
      let x ← one
      let t' ← fo ts
      if ends t'=true then pure (if x.2=true then out ++ [x.1] else out)
      else do
        iI ts
        rowP ends one f (if x.2=true then out ++ [x.1] else out)
def gW (one:PM (No×Bool)):PM (List No):=do
  let _ ← cE ts ⟨#[123]⟩
  let l ← rowP ts (fun t=>oneOf t [⟨#[125]⟩]) one (ts.length+1) []
  let _ ← cE ts ⟨#[125]⟩
  pure l
structure Gr where
  typ:PM No
  expr:PM No
  unary:PM No
  binary:No→Nat→PM No
  suffixes:No→PM No
  stmt:PM (No×Bool)
  branch:PM No
variable (G:Gr)
/-! ### types -/
def dk:PM No:=do
  let n ← dp ts
  let q ← bc ts [⟨#[46]⟩]
  if q=true then do
    let m ← dp ts
    bd ts 41 n.fr ⟨#[]⟩ [n,m]
  else pure n
def mG (d:Bool):ByteArray:=if d=true then ⟨#[46,46,46]⟩ else ⟨#[]⟩
def gC (any:Bool):PM (No×Bool):=do
  if any=true then kh ts
  else do
    let at_ ← kC ts
    let n ← dp ts
    let d ← bc ts [⟨#[46,46,46]⟩]
    let t ← G.typ
    let x ← bd ts 11 at_ (mG d) [n,t]
    pure (x,d)
def iu:PM No:=do
  let t ← cE ts ⟨#[40]⟩
  let l ← fp ts ⟨#[41]⟩ 0 (gC ts G) (ts.length+1) false []
  let _ ← cE ts ⟨#[41]⟩
  bd ts 10 t.fr ⟨#[]⟩ l.1
def plain (x:PM No) (u:Unit):PM (No×Unit):=do
  let a ← x
  pure (a,u)
def eW:PM No:=do
  let q ← rp ts [⟨#[40]⟩]
  if q=true then do
    let t ← lG ts
    let l ← fp ts ⟨#[41]⟩ 1 (plain G.typ) (ts.length+1) () []
    let _ ← cE ts ⟨#[41]⟩
    bd ts 12 t.fr ⟨#[]⟩ l.1
  else do
    let t ← fo ts
    if lU t=true then do
      let x ← G.typ
      bd ts 12 t.fr ⟨#[]⟩ [x]
    else oH ts 12
def De (n:No) (ks:List No):No:=.mk n.k n.fr ((ks.getLast?.map No.to).getD n.to) n.tx ks
def kV {σ:Type} (one:σ→PM (No×σ)) (u:σ):PM (No×σ):=do
  let n ← oH ts 27
  let l ← fp ts ⟨#[41]⟩ 0 one (ts.length+1) u []
  pure (De n l.1,l.2)
def jg (d:Bool):PM (No×Bool):=do
  if d=true then kh ts
  else do
    let q ← bc ts [⟨#[46,46,46]⟩]
    let x ← G.typ
    pure (x,q)
def fW (fr:Int):PM No:=do
  let _ ← cE ts ⟨#[40]⟩
  let l ← kV ts (jg ts G) false
  let _ ← cE ts ⟨#[41]⟩
  let r ← eW ts G
  bd ts 24 fr (mG l.2) [l.1,r]
def l_:PM (No×Bool):=do
  let fr ← kC ts
  let n ← dp ts
  let t ← fo ts
  if oneOf t [⟨#[46]⟩]=true then do
    tN
    let x ← dk ts
    let y ← bd ts 29 fr ⟨#[]⟩ [x]
    pure (y,true)
  else if oneOf t [⟨#[125]⟩]=true∨t.k=6 then do
    let y ← bd ts 29 fr ⟨#[]⟩ [n]
    pure (y,true)
  else do
    let x ← G.typ
    let y ← bd ts 28 fr ⟨#[]⟩ [n,x]
    pure (y,true)
def im:PM (No×Bool):=do
  let fr ← kC ts
  let n ← dp ts
  let q ← rp ts [⟨#[40]⟩]
  if q=true then do
    let _ ← lG ts
    let l ← kV ts (plain G.typ) ()
    let _ ← cE ts ⟨#[41]⟩
    let r ← eW ts G
    let y ← bd ts 30 fr ⟨#[]⟩ [n,l.1,r]
    pure (y,true)
  else do
    tN
    let x ← dk ts
    let y ← bd ts 29 fr ⟨#[]⟩ [x]
    pure (y,true)
def qP (fr:Int):PM No:=do
  let q ← bc ts [⟨#[105,110,116,101,114,102,97,99,101]⟩]
  if q=true then do
    let l ← gW ts (im ts G)
    bd ts 26 fr ⟨#[]⟩ l
  else do
  let q ← bc ts [⟨#[40]⟩]
  if q=true then do
    let t ← G.typ
    let _ ← cE ts ⟨#[41]⟩
    bd ts 44 fr ⟨#[]⟩ [t]
  else kh ts
def pr:PM No:=do
  let t ← fo ts
  if t.k=1 then dk ts
  else do
  let q ← bc ts [⟨#[42]⟩]
  if q=true then do
    let x ← G.typ
    bd ts 21 t.fr ⟨#[]⟩ [x]
  else do
  let q ← bc ts [⟨#[91]⟩]
  if q=true then do
    let _ ← cE ts ⟨#[93]⟩
    let x ← G.typ
    bd ts 22 t.fr ⟨#[]⟩ [x]
  else do
  let q ← bc ts [⟨#[99,104,97,110]⟩]
  if q=true then do
    let x ← G.typ
    bd ts 23 t.fr ⟨#[]⟩ [x]
  else do
  let q ← bc ts [⟨#[102,117,110,99]⟩]
  if q=true then fW ts G t.fr
  else do
  let q ← bc ts [⟨#[115,116,114,117,99,116]⟩]
  if q=true then do
    let l ← gW ts (l_ ts G)
    bd ts 25 t.fr ⟨#[]⟩ l
  else qP ts G t.fr
/-! ### expressions -/
def jm (u:Unit):PM (No×Unit):=do
  let t ← fo ts
  let t1 ← me ts 1
  if t.k=1∧oneOf t1 [⟨#[58]⟩]=true then do
    let n ← dp ts
    let _ ← cE ts ⟨#[58]⟩
    let x ← G.expr
    let y ← bd ts 47 n.fr ⟨#[]⟩ [n,x]
    pure (y,u)
  else do
    let x ← G.expr
    pure (x,u)
def cU (fr:Int) (t:No):PM No:=do
  let _ ← cE ts ⟨#[123]⟩
  let l ← fP false (fp ts ⟨#[125]⟩ 0 (jm ts G) (ts.length+1) () [])
  let _ ← cE ts ⟨#[125]⟩
  bd ts 46 fr ⟨#[]⟩ (t :: l.1)
def gh:PM No:=do
  let n ← dp ts
  let b ← wj
  if b=true then pure n
  else do
  let q ← rp ts [⟨#[123]⟩]
  if q=true then cU ts G n.fr n
  else do
  let q ← rp ts [⟨#[46]⟩]
  let t1 ← me ts 1
  let t2 ← me ts 2
  if q=true∧t1.k=1∧oneOf t2 [⟨#[123]⟩]=true then do
    tN
    let t ← dk ts
    cU ts G n.fr t
  else pure n
def fG:PM No:=do
  let fr ← kC ts
  let l ← fP false (gW ts G.stmt)
  bd ts 60 fr ⟨#[]⟩ l
def sN:PM No:=do
  let q ← rp ts [⟨#[91]⟩,⟨#[99,104,97,110]⟩,⟨#[115,116,114,117,99,116]⟩,⟨#[105,110,116,101,114,102,97,99,101]⟩]
  if q=true then do
    let fr ← kC ts
    let sl ← rp ts [⟨#[91]⟩]
    let t ← G.typ
    let q ← rp ts [⟨#[123]⟩]
    if sl=true∧q=true then do
      let x ← cU ts G fr t
      let y ← G.suffixes x
      G.binary y 1
    else pure t
  else G.expr
def dY:PM No:=do
  let t ← fo ts
  if t.k=2 then do
    h_
    bd ts 42 t.fr t.tx []
  else if t.k=3 then do
    h_
    bd ts 43 t.fr t.tx []
  else if t.k=1 then gh ts G
  else do
  let q ← bc ts [⟨#[40]⟩]
  if q=true then do
    let x ← fP false G.expr
    let _ ← cE ts ⟨#[41]⟩
    bd ts 44 t.fr ⟨#[]⟩ [x]
  else do
  let q ← bc ts [⟨#[102,117,110,99]⟩]
  if q=true then do
    let a ← iu ts G
    let r ← eW ts G
    let b ← fG ts G
    bd ts 45 t.fr ⟨#[]⟩ [a,r,b]
  else do
  let q ← rp ts [⟨#[91]⟩]
  if q=true then do
    let x ← pr ts G
    cU ts G t.fr x
  else kh ts
def jq (d:Bool):PM (No×Bool):=do
  if d=true then kh ts
  else do
    let x ← sN ts G
    let q ← bc ts [⟨#[46,46,46]⟩]
    pure (x,q)
def li (x:No):PM No:=do
  let l ← fP false (fp ts ⟨#[41]⟩ 0 (jq ts G) (ts.length+1) false [])
  let _ ← cE ts ⟨#[41]⟩
  bd ts 48 x.fr (mG l.2) (x :: l.1)
def eI (x:No):PM (No×Bool):=do
  let q ← bc ts [⟨#[46]⟩]
  if q=true then do
    let q ← bc ts [⟨#[40]⟩]
    if q=true then do
      let t ← G.typ
      let _ ← cE ts ⟨#[41]⟩
      let y ← bd ts 50 x.fr ⟨#[]⟩ [x,t]
      pure (y,true)
    else do
      let m ← dp ts
      let y ← bd ts 41 x.fr ⟨#[]⟩ [x,m]
      pure (y,true)
  else do
  let q ← bc ts [⟨#[91]⟩]
  if q=true then do
    let l ← fP false (fp ts ⟨#[93]⟩ 1 (plain (sN ts G)) (ts.length+1) () [])
    let _ ← cE ts ⟨#[93]⟩
    let y ← bd ts 49 x.fr ⟨#[]⟩ (x :: l.1)
    pure (y,true)
  else do
  let q ← bc ts [⟨#[40]⟩]
  if q=true then do
    let y ← li ts G x
    pure (y,true)
  else pure (x,false)
def cw:Nat→No→PM No
  | 0,_=>fun _=>none
  | f+1,x=>do
    let y ← eI ts G x
    if y.2=true then cw f y.1 else pure y.1
def eT (x:No):PM No:=cw ts G (ts.length+1) x
def eX:PM No:=do
  let x ← dY ts G
  eT ts G x
def fY:PM No:=do
  let t ← fo ts
  let q ← bc ts [⟨#[45]⟩,⟨#[33]⟩,⟨#[38]⟩,⟨#[42]⟩,⟨#[60,45]⟩]
  if q=true then do
    let x ← G.unary
    bd ts 51 t.fr t.tx [x]
  else eX ts G
def j8 (r:Nat):Nat→No→PM No
  | 0,_=>fun _=>none
  | f+1,y=>do
    let t ← fo ts
    if r<dm t then do
      let z ← G.binary y (r+1)
      j8 r f z
    else pure y
def eM (least:Nat):Nat→No→PM No
  | 0,_=>fun _=>none
  | f+1,x=>do
    let t ← fo ts
    if dm t<least then pure x
    else do
      h_
      let y ← G.unary
      let z ← j8 ts G (dm t) (ts.length+1) y
      let n ← bd ts 52 x.fr t.tx [x,z]
      eM least f n
def js (x:No) (least:Nat):PM No:=eM ts G least (ts.length+1) x
def dM:PM No:=do
  let x ← fY ts G
  js ts G x 1
/-! ### statements -/
def fk:PM No:=do
  let t ← lG ts
  let n ← dp ts
  let q ← rp ts [⟨#[61]⟩]
  let ty ← (if q=true then pure bo else pr ts G)
  let q ← bc ts [⟨#[61]⟩]
  let x ← (if q=true then dM ts G else pure bo)
  bd ts 4 t.fr ⟨#[]⟩ [n,ty,x]
def fx:PM No:=do
  let t ← lG ts
  let n ← dp ts
  let q ← rp ts [⟨#[61]⟩]
  let ty ← (if q=true then pure bo else pr ts G)
  let _ ← cE ts ⟨#[61]⟩
  let x ← dM ts G
  bd ts 5 t.fr ⟨#[]⟩ [n,ty,x]
def jp (k fr:Int):PM No:=do
  let n ← eX ts G
  if n.k=48 then bd ts k fr ⟨#[]⟩ [n] else kh ts
def jb:Nat→List No→PM (List No)
  | 0,_=>fun _=>none
  | f+1,l=>do
    let q ← bc ts [⟨#[44]⟩]
    if q=true then do
      let x ← dM ts G
      jb f (l ++ [x])
    else pure l
def gI:PM (List No):=do
  let x ← dM ts G
  jb ts G (ts.length+1) [x]
def aB (l:List No):No:=.mk 65 ((l.head?.map No.fr).getD 0) ((l.getLast?.map No.to).getD 0) ⟨#[]⟩ l
def iB (l:List No):Bool:=l.all fun n=>decide (n.k=40)
def dx {σ:Type} (I2:List No→PM (Option σ)):PM (No ⊕ σ):=do
  let fr ← kC ts
  let l ← gI ts G
  let t ← fo ts
  if l.length=1∧oneOf t [⟨#[60,45]⟩]=true then do
    h_
    let x ← dM ts G
    let y ← bd ts 62 fr ⟨#[]⟩ [l.headD bo,x]
    pure (.inl y)
  else if oneOf t [⟨#[61]⟩]=true then do
    h_
    let x ← dM ts G
    let r ← jb ts G (ts.length+1) [x]
    let y ← bd ts 63 fr t.tx [aB l,aB r]
    pure (.inl y)
  else if l.length=1∧oneOf t [⟨#[43,61]⟩,⟨#[45,61]⟩,⟨#[42,61]⟩,⟨#[47,61]⟩,⟨#[37,61]⟩]=true then do
    h_
    let x ← dM ts G
    let y ← bd ts 63 fr t.tx [aB l,aB [x]]
    pure (.inl y)
  else if l.length=1∧oneOf t [⟨#[43,43]⟩,⟨#[45,45]⟩]=true then do
    h_
    let y ← bd ts 66 fr t.tx [l.headD bo]
    pure (.inl y)
  else if iB l=true∧oneOf t [⟨#[58,61]⟩]=true then do
    h_
    let o ← I2 l
    match o with
    | some u=>pure (.inr u)
    | none=>do
      let r ← gI ts G
      let y ← bd ts 64 fr ⟨#[]⟩ [aB l,aB r]
      pure (.inl y)
  else if l.length=1 then do
    let y ← bd ts 61 fr ⟨#[]⟩ [l.headD bo]
    pure (.inl y)
  else kh ts
def BF:No ⊕ Empty→No
  | .inl n=>n
  | .inr u=>nomatch u
def gg:PM No:=do
  let x ← dx ts G (σ:=Empty) (fun _=>pure none)
  pure (BF x)
def jX:PM (No×No):=do
  let n ← gg ts G
  let t ← fo ts
  if t.k=6 then do
    h_
    let c ← dM ts G
    pure (n,c)
  else if n.k=61 then pure (bo,n.ks.headD bo)
  else kh ts
def jr:PM No:=do
  let t ← lG ts
  let h ← fP true (jX ts G)
  let b ← fG ts G
  let q ← bc ts [⟨#[101,108,115,101]⟩]
  if q=true then do
    let t1 ← fo ts
    if oneOf t1 [⟨#[105,102]⟩]=true then do
      let o ← G.branch
      bd ts 72 t.fr ⟨#[]⟩ [h.1,h.2,b,o]
    else if oneOf t1 [⟨#[123]⟩]=true then do
      let o ← fG ts G
      bd ts 72 t.fr ⟨#[]⟩ [h.1,h.2,b,o]
    else kh ts
  else bd ts 72 t.fr ⟨#[]⟩ [h.1,h.2,b,bo]
def gU (l:List No):PM (List No):=do
  let _ ← cE ts ⟨#[114,97,110,103,101]⟩
  let x ← dM ts G
  pure [l.getD 0 bo,l.getD 1 bo,x]
def mC (l:List No):PM (Option (List No)):=do
  let q ← rp ts [⟨#[114,97,110,103,101]⟩]
  if l.length≤2∧q=true then do
    let r ← gU ts G l
    pure (some r)
  else pure none
def gG (first:No):PM ((No×No×No) ⊕ List No):=do
  iI ts
  let t ← fo ts
  let c ← (if t.k=6 then pure bo else dM ts G)
  iI ts
  let q ← rp ts [⟨#[123]⟩]
  let l ← (if q=true then pure bo else gg ts G)
  pure (.inl (first,c,l))
def il:PM ((No×No×No) ⊕ List No):=do
  let t ← fo ts
  if oneOf t [⟨#[123]⟩]=true then pure (.inl (bo,bo,bo))
  else if oneOf t [⟨#[114,97,110,103,101]⟩]=true then do
    let r ← gU ts G []
    pure (.inr r)
  else if t.k=6 then gG ts G bo
  else do
    let x ← dx ts G (mC ts G)
    match x with
    | .inr r=>pure (.inr r)
    | .inl n=>do
      let t ← fo ts
      if t.k=6 then gG ts G n
      else if n.k=61 then pure (.inl (bo,n.ks.headD bo,bo))
      else kh ts
def pQ (fr:Int):PM No:=do
  let h ← fP true (il ts G)
  let b ← fG ts G
  match h with
  | .inr r=>bd ts 74 fr ⟨#[]⟩ (r ++ [b])
  | .inl x=>bd ts 73 fr ⟨#[]⟩ [x.1,x.2.1,x.2.2,b]
def lO (t:Tk):Bool:=oneOf t [⟨#[125]⟩,⟨#[99,97,115,101]⟩,⟨#[100,101,102,97,117,108,116]⟩]
def kr (to:Int) (l:List No):Int:=(l.getLast?.map No.to).getD to
def jo (k:Int) (head:PM No):PM No:=do
  let fr ← kC ts
  let q ← bc ts [⟨#[100,101,102,97,117,108,116]⟩]
  let h ← (if q=true then pure bo else do
    let _ ← cE ts ⟨#[99,97,115,101]⟩
    head)
  let c ← cE ts ⟨#[58]⟩
  let l ← rowP ts lO G.stmt (ts.length+1) []
  pure (.mk k fr (kr c.to l) ⟨#[]⟩ (h :: l))
def jn (k:Int) (head:PM No):Nat→List No→PM (List No)
  | 0,_=>fun _=>none
  | f+1,out=>do
    let q ← rp ts [⟨#[125]⟩]
    if q=true then pure out
    else do
      let x ← jo ts G k head
      jn k head f (out ++ [x])
def jO (k:Int) (head:PM No):PM (List No):=do
  let _ ← cE ts ⟨#[123]⟩
  let l ← fP false (jn ts G k head (ts.length+1) [])
  let _ ← cE ts ⟨#[125]⟩
  pure l
def gq:PM No:=do
  let l ← gI ts G
  pure (aB l)
def jZ (fr:Int):PM No:=do
  let x ← fP true (dM ts G)
  let l ← jO ts G 76 (gq ts G)
  bd ts 75 fr ⟨#[]⟩ (x :: l)
def oL:PM No:=do
  let fr ← kC ts
  let t ← fo ts
  let t1 ← me ts 1
  if t.k=1∧oneOf t1 [⟨#[44]⟩,⟨#[58,61]⟩]=true then do
    let n ← dp ts
    let q ← bc ts [⟨#[44]⟩]
    let m ← (if q=true then dp ts else pure bo)
    let _ ← cE ts ⟨#[58,61]⟩
    let _ ← cE ts ⟨#[60,45]⟩
    let x ← fY ts G
    bd ts 79 fr ⟨#[]⟩ [n,m,x]
  else do
    let x ← dM ts G
    let q ← bc ts [⟨#[60,45]⟩]
    if q=true then do
      let y ← dM ts G
      bd ts 62 fr ⟨#[]⟩ [x,y]
    else if x.k=51∧x.tx=⟨#[60,45]⟩ then bd ts 79 fr ⟨#[]⟩ [bo,bo,x.ks.headD bo]
    else kh ts
def mc (fr:Int):PM No:=do
  let l ← jO ts G 78 (oL ts G)
  bd ts 77 fr ⟨#[]⟩ l
def pw (x:PM No):PM (No×Bool):=do
  let n ← x
  pure (n,true)
def mP (fr:Int):PM (No×Bool):=do
  let q ← bc ts [⟨#[98,114,101,97,107]⟩]
  if q=true then pw (bd ts 70 fr ⟨#[]⟩ [])
  else do
  let q ← bc ts [⟨#[99,111,110,116,105,110,117,101]⟩]
  if q=true then pw (bd ts 71 fr ⟨#[]⟩ [])
  else do
  let q ← rp ts [⟨#[105,102]⟩]
  if q=true then pw (jr ts G)
  else do
  let q ← bc ts [⟨#[102,111,114]⟩]
  if q=true then pw (pQ ts G fr)
  else do
  let q ← bc ts [⟨#[115,119,105,116,99,104]⟩]
  if q=true then pw (jZ ts G fr)
  else do
  let q ← bc ts [⟨#[115,101,108,101,99,116]⟩]
  if q=true then pw (mc ts G fr)
  else pw (gg ts G)
def pL:PM (No×Bool):=do
  let t ← fo ts
  if oneOf t [⟨#[125]⟩,⟨#[99,97,115,101]⟩,⟨#[100,101,102,97,117,108,116]⟩]=true∨t.k=6 then pure (bo,false)
  else if oneOf t [⟨#[118,97,114]⟩]=true then pw (fk ts G)
  else if oneOf t [⟨#[99,111,110,115,116]⟩]=true then pw (fx ts G)
  else if oneOf t [⟨#[123]⟩]=true then pw (fG ts G)
  else do
  let q ← bc ts [⟨#[103,111]⟩]
  if q=true then pw (jp ts G 67 t.fr)
  else do
  let q ← bc ts [⟨#[100,101,102,101,114]⟩]
  if q=true then pw (jp ts G 68 t.fr)
  else do
  let q ← bc ts [⟨#[114,101,116,117,114,110]⟩]
  if q=true then do
    let t1 ← fo ts
    let l ← (if j1 t1=true then gI ts G else pure [])
    pw (bd ts 69 t.fr ⟨#[]⟩ l)
  else mP ts G t.fr
/-! ### all of them -/
def stepG:Gr:=⟨pr ts G,dM ts G,fY ts G,js ts G,eT ts G,pL ts G,jr ts G⟩
end
def K7:Gr:=⟨fun _=>none,fun _=>none,fun _=>none,fun _ _ _=>none,fun _ _=>none,fun _=>none,fun _=>none⟩
def gr (ts:List Tk):Nat→Gr
  | 0=>K7
  | n+1=>stepG ts (gr ts n)
section
variable (ts:List Tk) (G:Gr)
/-! ### files -/
def C4:Nat→List No→PM (List No)
  | 0,_=>fun _=>none
  | f+1,l=>do
    let q ← bc ts [⟨#[124]⟩]
    if q=true then do
      let x ← pr ts G
      C4 f (l ++ [x])
    else pure l
def eA:PM No:=do
  let fr ← kC ts
  let n ← dp ts
  let at_ ← kC ts
  let x ← pr ts G
  let l ← C4 ts G (ts.length+1) [x]
  let c ← (if 1<l.length then bd ts 14 at_ ⟨#[]⟩ l else pure (l.headD bo))
  bd ts 13 fr ⟨#[]⟩ [n,c]
def pN:PM No:=do
  let t ← lG ts
  let n ← dp ts
  let star ← kC ts
  let q ← bc ts [⟨#[42]⟩]
  let ty ← dp ts
  let ty2 ← (if q=true then bd ts 21 star ⟨#[]⟩ [ty] else pure ty)
  let _ ← cE ts ⟨#[41]⟩
  bd ts 8 t.fr ⟨#[]⟩ [n,ty2]
def iY:PM No:=do
  let t ← lG ts
  let l ← fp ts ⟨#[93]⟩ 1 (plain (eA ts G)) (ts.length+1) () []
  let _ ← cE ts ⟨#[93]⟩
  bd ts 9 t.fr ⟨#[]⟩ l.1
def fV:PM No:=do
  let t ← lG ts
  let q ← rp ts [⟨#[40]⟩]
  let recv ← (if q=true then pN ts else pure bo)
  let n ← dp ts
  let q ← rp ts [⟨#[91]⟩]
  let tp ← (if recv.k=7∧q=true then iY ts G else pure bo)
  let a ← iu ts G
  let r ← eW ts G
  let b ← fG ts G
  bd ts 3 t.fr ⟨#[]⟩ [recv,n,tp,a,r,b]
def pW:PM No:=do
  let t ← fo ts
  if oneOf t [⟨#[102,117,110,99]⟩]=true then fV ts G
  else if oneOf t [⟨#[118,97,114]⟩]=true then fk ts G
  else if oneOf t [⟨#[99,111,110,115,116]⟩]=true then fx ts G
  else if oneOf t [⟨#[116,121,112,101]⟩]=true then do
    h_
    let n ← dp ts
    let x ← pr ts G
    bd ts 6 t.fr ⟨#[]⟩ [n,x]
  else kh ts
def eE:Nat→List No→Int→PM (List No×Int)
  | 0,_,_=>fun _=>none
  | f+1,l,to=>do
    let q ← rp ts [⟨#[105,109,112,111,114,116]⟩]
    if q=true then do
      let t ← lG ts
      let s ← fo ts
      if s.k=3 then do
        h_
        let x ← bd ts 2 t.fr s.tx []
        let to' ← M7 ts
        iI ts
        eE f (l ++ [x]) to'
      else kh ts
    else pure (l,to)
def iE:Nat→List No→Int→PM (List No×Int)
  | 0,_,_=>fun _=>none
  | f+1,l,to=>do
    let t ← fo ts
    if t.k=7 then pure (l,to)
    else do
      let x ← pW ts G
      let to' ← M7 ts
      iI ts
      iE f (l ++ [x]) to'
def mE:PM No:=do
  let t ← cE ts ⟨#[112,97,99,107,97,103,101]⟩
  let n ← dp ts
  let to ← M7 ts
  iI ts
  let a ← eE ts (ts.length+1) [n] to
  let b ← iE ts G (ts.length+1) a.1 a.2
  pure (.mk 1 t.fr b.2 ⟨#[]⟩ b.1)
def ky (x:PM No):PM No:=do
  let n ← x
  let t ← fo ts
  if t.k=6 then do
    h_
    let t ← fo ts
    if t.k=7 then pure n else kh ts
  else if t.k=7 then pure n else kh ts
end
structure WT (ts:List Tk):Prop where
  nxt:∀ i,i<ts.length→(ap ts i).k≠7→i+1<ts.length
def aA (ζ:Prop) (ts:List Tk) {α:Type} (m:Nat) (x:PM α) (i:Nat) (b:Bool):Prop:=
  (ζ→∃ r,x (i,b)=some r)∧∀ a s',x (i,b)=some (.ok (a,s'))→m≤s'.1∧s'.1<ts.length∧s'.2=b
section
variable {ζ:Prop} {ts:List Tk} {α β:Type} {m m' i:Nat} {b:Bool} {l:List ByteArray}
theorem bind_def (x:PM α) (f:α→PM β) (s:Ps):(x >>= f) s=match x s with
    | none=>none
    | some (.error p)=>some (.error p)
    | some (.ok (a,s'))=>f a s':=rfl
theorem aA.less {x:PM α} (h:aA ζ ts m x i b) (hm:m'≤m):aA ζ ts m' x i b:=
  ⟨h.1,fun a s' e=>by have:=h.2 a s' e;exact ⟨by omega,this.2⟩⟩
theorem aw {a:α} (h1:m≤i) (h2:i<ts.length):aA ζ ts m (pure a) i b:=
  ⟨fun _=>⟨_,rfl⟩,fun a' s' e=>by
    have e:(.ok (a,(i,b)):Except Int (α×Ps)) = .ok (a',s'):=Option.some.inj e
    cases e;exact ⟨h1,h2,rfl⟩⟩
theorem fF:aA ζ ts m (kh ts:PM α) i b:=⟨fun _=>⟨_,rfl⟩,fun a' s' e=>by cases Option.some.inj e⟩
theorem ah {x:PM α} {f:α→PM β} (h:aA ζ ts m x i b) (hf:∀ a i',m≤i'→i'<ts.length→aA ζ ts m' (f a) i' b):aA ζ ts m' (x >>= f) i b:=by
  obtain ⟨h1,h2⟩:=h
  have e:(x >>= f) (i,b)=match x (i,b) with
    | none=>none
    | some (.error p)=>some (.error p)
    | some (.ok (a,s'))=>f a s':=rfl
  cases hr:x (i,b) with
  | none=>
    rw [hr] at e;exact ⟨fun hz=>absurd (h1 hz) (by rw [hr];rintro ⟨_,h⟩;cases h),fun a s' h=>by rw [e] at h;cases h⟩
  | some r=>
  cases r with
  | error p=>
    rw [hr] at e;exact ⟨fun _=>⟨_,e⟩,fun a s' h=>by rw [e] at h;cases Option.some.inj h⟩
  | ok az=>
    obtain ⟨a,i',b'⟩:=az;obtain ⟨k1,k2,k3⟩:=h2 a (i',b') hr;simp only at k1 k2 k3;subst k3;rw [hr] at e;obtain ⟨g1,g2⟩:=hf a i' k1 k2;exact ⟨fun hz=>by rw [e];exact g1 hz,fun a s' h=>g2 a s' (by rw [← h,e])⟩
theorem dt {f:Tk→PM β} (h:aA ζ ts m (f (ap ts i)) i b):aA ζ ts m (fo ts >>= f) i b:=h
theorem pg {n:Nat} {f:Tk→PM β} (h:aA ζ ts m (f (ap ts (min (i+n) (ts.length - 1)))) i b):aA ζ ts m (me ts n >>= f) i b:=h
theorem k_ {f:Bool→PM β} (h:aA ζ ts m (f (oneOf (ap ts i) l)) i b):aA ζ ts m (rp ts l >>= f) i b:=h
theorem gH {f:Int→PM β} (h:aA ζ ts m (f (ap ts i).fr) i b):aA ζ ts m (kC ts >>= f) i b:=h
theorem ED {f:Int→PM β} (h:aA ζ ts m (f (ap ts (i - 1)).to) i b):aA ζ ts m (M7 ts >>= f) i b:=h
theorem JV {f:Bool→PM β} (h:aA ζ ts m (f b) i b):aA ζ ts m (wj >>= f) i b:=h
theorem dF {k fr:Int} {tx:ByteArray} {ks:List No} {f:No→PM β} (h:aA ζ ts m (f (.mk k fr (ap ts (i - 1)).to tx ks)) i b):aA ζ ts m (bd ts k fr tx ks >>= f) i b:=h
theorem bS {k fr:Int} {tx:ByteArray} {ks:List No} (h1:m≤i) (h2:i<ts.length):aA ζ ts m (bd ts k fr tx ks) i b:=
  ⟨fun _=>⟨_,rfl⟩,fun a' s' e=>by
    have e:(.ok (No.mk k fr (ap ts (i - 1)).to tx ks,(i,b)):Except Int (No×Ps)) = .ok (a',s'):=Option.some.inj e
    cases e;exact ⟨h1,h2,rfl⟩⟩
theorem yj {k:Int} (h1:m≤i) (h2:i<ts.length):aA ζ ts m (oH ts k) i b:=
  ⟨fun _=>⟨_,rfl⟩,fun a' s' e=>by
    have e:(.ok (No.mk k (ap ts i).fr (ap ts i).fr ⟨#[]⟩ [],(i,b)):Except Int (No×Ps)) = .ok (a',s'):=Option.some.inj e
    cases e;exact ⟨h1,h2,rfl⟩⟩
theorem fQ {f:Unit→PM β} (h:aA ζ ts m (f ()) (i+1) b):aA ζ ts m (h_ >>= f) i b:=h
theorem vI {f:Unit→PM β} (h:aA ζ ts m (f ()) (i - 1) b):aA ζ ts m (tN >>= f) i b:=h
theorem jh {f:Tk→PM β} (h:aA ζ ts m (f (ap ts i)) (i+1) b):aA ζ ts m (lG ts >>= f) i b:=h
theorem M9 {t:Tk} (h:oneOf t l=true):t.k=5∨t.k=4:=by
  simp only [oneOf,Bool.and_eq_true,Bool.or_eq_true,decide_eq_true_eq] at h;exact h.1
theorem cF {t:Tk} (h:oneOf t l=true):t.k≠7:=by rcases M9 h with h | h <;> rw [h] <;> decide
theorem ka (hw:WT ts) (hi:i<ts.length) {f:Bool→PM β} (h1:oneOf (ap ts i) l=true→i+1<ts.length→aA ζ ts m (f true) (i+1) b) (h0:oneOf (ap ts i) l=false→aA ζ ts m (f false) i b):aA ζ ts m (bc ts l >>= f) i b:=by
  have e:=bind_def (bc ts l) f (i,b);unfold aA;rw [e];unfold bc;by_cases h:oneOf (ap ts i) l=true
  · rw [if_pos h]
    exact h1 h (hw.nxt i hi (cF h))
  · rw [if_neg h]
    exact h0 (by simpa using h)
theorem bQ (hw:WT ts) (hi:i<ts.length) {x:ByteArray} {f:Tk→PM β} (h1:oneOf (ap ts i) [x]=true→i+1<ts.length→aA ζ ts m (f (ap ts i)) (i+1) b):aA ζ ts m (cE ts x >>= f) i b:=by
  have e:=bind_def (cE ts x) f (i,b);unfold aA;rw [e];unfold cE;by_cases h:oneOf (ap ts i) [x]=true
  · rw [if_pos h]
    exact h1 h (hw.nxt i hi (cF h))
  · rw [if_neg h]
    exact ⟨fun _=>⟨_,rfl⟩,fun a s' e=>by cases Option.some.inj e⟩
theorem mD (hw:WT ts) (hi:i<ts.length) {f:Unit→PM β} (h1:(ap ts i).k=6→i+1<ts.length→aA ζ ts m (f ()) (i+1) b):aA ζ ts m (iI ts >>= f) i b:=by
  have e:=bind_def (iI ts) f (i,b);unfold aA;rw [e];unfold iI;by_cases h:(ap ts i).k=6
  · rw [if_pos h]
    exact h1 h (hw.nxt i hi (by rw [h];decide))
  · rw [if_neg h]
    exact ⟨fun _=>⟨_,rfl⟩,fun a s' e=>by cases Option.some.inj e⟩
theorem dL (hw:WT ts) (hi:i<ts.length) {f:No→PM β} (h1:(ap ts i).k=1→i+1<ts.length→aA ζ ts m (f (.mk 40 (ap ts i).fr (ap ts i).to (ap ts i).tx [])) (i+1) b):aA ζ ts m (dp ts >>= f) i b:=by
  have e:=bind_def (dp ts) f (i,b);unfold aA;rw [e];unfold dp;by_cases h:(ap ts i).k=1
  · rw [if_pos h]
    exact h1 h (hw.nxt i hi (by rw [h];decide))
  · rw [if_neg h]
    exact ⟨fun _=>⟨_,rfl⟩,fun a s' e=>by cases Option.some.inj e⟩
theorem rH (hw:WT ts) (hi:i<ts.length) (hm:m≤i+1):aA ζ ts m (dp ts) i b:=by
  unfold aA dp;by_cases h:(ap ts i).k=1
  · simp only [if_pos h]
    refine ⟨fun _=>⟨_,rfl⟩,fun a s' e=>?_⟩;cases Option.some.inj e;exact ⟨hm,hw.nxt i hi (by rw [h];decide),rfl⟩
  · simp only [if_neg h]
    exact ⟨fun _=>⟨_,rfl⟩,fun a s' e=>by cases Option.some.inj e⟩
theorem ji {q:Bool} {x:PM α} (h:aA ζ ts m x i q):aA ζ ts m (fP q x) i b:=by
  obtain ⟨h1,h2⟩:=h
  have e:fP q x (i,b)=match x (i,q) with
    | none=>none
    | some (.error p)=>some (.error p)
    | some (.ok (a,s'))=>some (.ok (a,(s'.1,b))):=rfl
  cases hr:x (i,q) with
  | none=>
    rw [hr] at e;exact ⟨fun hz=>absurd (h1 hz) (by rw [hr];rintro ⟨_,h⟩;cases h),fun a s' h=>by rw [e] at h;cases h⟩
  | some r=>
  cases r with
  | error p=>
    rw [hr] at e;exact ⟨fun _=>⟨_,e⟩,fun a s' h=>by rw [e] at h;cases Option.some.inj h⟩
  | ok az=>
    obtain ⟨a,i',b'⟩:=az;obtain ⟨k1,k2,k3⟩:=h2 a (i',b') hr;rw [hr] at e;refine ⟨fun _=>⟨_,e⟩,fun a s' h=>?_⟩;rw [e] at h;cases Option.some.inj h;exact ⟨k1,k2,rfl⟩
theorem aV {c:Prop} [Decidable c] {x y:PM α} (h1:c→aA ζ ts m x i b) (h2:¬c→aA ζ ts m y i b):aA ζ ts m (if c then x else y) i b:=by
  by_cases h:c
  · rw [if_pos h];exact h1 h
  · rw [if_neg h];exact h2 h
theorem bU (hw:WT ts) (hi:i<ts.length) {x y:PM β} (h1:i+1<ts.length→aA ζ ts m x (i+1) b) (h0:aA ζ ts m y i b):aA ζ ts m (bc ts l >>= fun q=>if q=true then x else y) i b:=
  ka hw hi (fun _ h=>by rw [if_pos rfl];exact h1 h) (fun _=>by rw [if_neg (by decide)];exact h0)
theorem lK {x y:PM β} (h1:oneOf (ap ts i) l=true→aA ζ ts m x i b) (h0:oneOf (ap ts i) l=false→aA ζ ts m y i b):aA ζ ts m (rp ts l >>= fun q=>if q=true then x else y) i b:=
  k_ (aV h1 fun h=>h0 (by simpa using h))
theorem eZ (hw:WT ts) {σ:Type} {closing:ByteArray} {least:Nat} {one:σ→PM (No×σ)} (lo:Nat) (h1:∀ u i,lo≤i→i<ts.length→aA ζ ts (i+1) (one u) i b) :
    ∀ (f:Nat) (u:σ) (out:List No) (i:Nat),lo≤i→i<ts.length→ts.length<f+i→aA ζ ts i (fp ts closing least one f u out) i b
  | 0,_,_,i,_,h,h'=>by omega
  | f+1,u,out,i,hl,h,h'=>by
    unfold fp;refine k_ (aV (fun _=>aw (Nat.le_refl _) h) fun _=>?_);refine ah (h1 u i hl h) fun x i' h2 h3=>?_;refine bU hw h3 (fun h4=>?_) (aw (by omega) h3);exact (eZ hw lo h1 f x.2 _ (i'+1) (by omega) h4 (by omega)).less (by omega)
theorem pf (hw:WT ts) {ends:Tk→Bool} {one:PM (No×Bool)} (lo:Nat) (h1:∀ i,lo≤i→i<ts.length→aA ζ ts i one i b) :
    ∀ (f:Nat) (out:List No) (i:Nat),lo≤i→i<ts.length→ts.length<f+i→aA ζ ts i (rowP ts ends one f out) i b
  | 0,_,i,_,h,h'=>by omega
  | f+1,out,i,hl,h,h'=>by
    unfold rowP;refine dt (aV (fun _=>aw (Nat.le_refl _) h) fun _=>?_);refine ah (h1 i hl h) fun x i' h2 h3=>?_;refine dt (aV (fun _=>aw (by omega) h3) fun _=>?_);refine mD hw h3 fun _ h4=>?_;exact (pf hw lo h1 f _ (i'+1) (by omega) h4 (by omega)).less (by omega)
theorem jN (hw:WT ts) {one:PM (No×Bool)} (hi:i<ts.length) (h1:∀ j,i<j→j<ts.length→aA ζ ts j one j b):aA ζ ts (i+2) (gW ts one) i b:=by
  unfold gW;refine bQ hw hi fun _ h2=>?_;refine ah (pf hw (i+1) (fun j hj h=>h1 j (by omega) h) _ _ (i+1) (Nat.le_refl _) h2 (by omega)) fun l i' h3 h4=>?_;refine bQ hw h4 fun _ h5=>aw (by omega) h5
end
structure ir (ζ:Prop) (ts:List Tk) (G:Gr) (lo:Nat):Prop where
  typ:∀ i b,lo<i→i<ts.length→aA ζ ts (i+1) G.typ i b
  expr:∀ i b,lo<i→i<ts.length→aA ζ ts (i+1) G.expr i b
  unary:∀ i b,lo<i→i<ts.length→aA ζ ts (i+1) G.unary i b
  binary:∀ x r i b,0<r→lo<i→i<ts.length→aA ζ ts (if dm (ap ts i)<r then i else i+1) (G.binary x r) i b
  suffixes:∀ x i b,lo<i→i<ts.length→aA ζ ts i (G.suffixes x) i b
  stmt:∀ i b,lo<i→i<ts.length→aA ζ ts i G.stmt i b
  branch:∀ i b,lo<i→i<ts.length→oneOf (ap ts i) [⟨#[105,102]⟩]=true→aA ζ ts (i+1) G.branch i b
theorem ir.less {ζ:Prop} {ts:List Tk} {G:Gr} {lo BA:Nat} (h:ir ζ ts G lo) (hl:lo≤BA):ir ζ ts G BA:=
  ⟨fun i b h1=>h.typ i b (by omega),fun i b h1=>h.expr i b (by omega),fun i b h1=>h.unary i b (by omega),fun x r i b h0 h1=>h.binary x r i b h0 (by omega),fun x i b h1=>h.suffixes x i b (by omega),
   fun i b h1=>h.stmt i b (by omega),fun i b h1=>h.branch i b (by omega)⟩
section
variable {ζ:Prop} {ts:List Tk} {G:Gr} {lo i:Nat} {b:Bool}
theorem ig (hw:WT ts) (hi:i<ts.length):aA ζ ts (i+1) (dk ts) i b:=by
  unfold dk;refine dL hw hi fun _ h1=>?_;exact bU hw h1 (fun h2=>dL hw h2 fun _ h3=>bS (by omega) h3) (aw (by omega) h1)
theorem mT (hw:WT ts) (hG:ir ζ ts G lo) (hl:lo<i) (hi:i<ts.length) (q:Bool):aA ζ ts (i+1) (gC ts G q) i b:=by
  unfold gC;refine aV (fun _=>fF) fun _=>?_;refine gH (dL hw hi fun _ h1=>?_);refine ka hw h1 (fun _ h2=>?_) (fun _=>?_)
  · exact ah (hG.typ _ _ (by omega) h2) fun _ i' h3 h4=>dF (aw (by omega) h4)
  · exact ah (hG.typ _ _ (by omega) h1) fun _ i' h3 h4=>dF (aw (by omega) h4)
theorem eD (hw:WT ts) (hG:ir ζ ts G lo) (hl:lo≤i) (hi:i<ts.length):aA ζ ts (i+2) (iu ts G) i b:=by
  unfold iu;refine bQ hw hi fun _ h1=>?_;refine ah (eZ hw (i+1) (fun u j hj h=>mT hw hG (by omega) h u) _ _ _ (i+1) (Nat.le_refl _) h1 (by omega)) fun l i' h3 h4=>?_;exact bQ hw h4 fun _ h5=>bS (by omega) h5
theorem fm {x:PM No} {u:Unit} {m:Nat} (h:aA ζ ts m x i b):aA ζ ts m (plain x u) i b:=
  ah h fun _ _ h1 h2=>aw h1 h2
theorem bK (hw:WT ts) (hG:ir ζ ts G lo) (hl:lo<i) (hi:i<ts.length):aA ζ ts i (eW ts G) i b:=by
  unfold eW;refine lK (fun h0=>?_) (fun _=>?_)
  · have h1:=hw.nxt i hi (cF h0)
    refine jh ?_;refine ah (eZ hw (i+1) (fun u j hj h=>fm (hG.typ _ _ (by omega) h)) _ _ _ (i+1) (Nat.le_refl _) h1 (by omega)) fun l i' h3 h4=>?_;exact bQ hw h4 fun _ h5=>bS (by omega) h5
  · refine dt (aV (fun _=>?_) fun _=>yj (Nat.le_refl _) hi)
    exact ah (hG.typ _ _ hl hi) fun _ i' h1 h2=>bS (by omega) h2
theorem oY (hw:WT ts) {σ:Type} {one:σ→PM (No×σ)} {u:σ} (h1:∀ u j,i≤j→j<ts.length→aA ζ ts (j+1) (one u) j b) (hi:i<ts.length):aA ζ ts i (kV ts one u) i b:=by
  unfold kV;refine ah (yj (Nat.le_refl _) hi) fun n j h2 h3=>?_;refine ah ((eZ hw i h1 _ _ _ j (by omega) h3 (by omega)).less (m':=i) (by omega)) fun l k h4 h5=>aw h4 h5
theorem oF (hw:WT ts) (hG:ir ζ ts G lo) (hl:lo<i) (hi:i<ts.length) (q:Bool):aA ζ ts (i+1) (jg ts G q) i b:=by
  unfold jg;refine aV (fun _=>fF) fun _=>?_;refine ka hw hi (fun _ h2=>?_) (fun _=>?_)
  · exact ah (hG.typ _ _ (by omega) h2) fun _ i' h3 h4=>aw (by omega) h4
  · exact ah (hG.typ _ _ (by omega) hi) fun _ i' h3 h4=>aw (by omega) h4
theorem zM (hw:WT ts) (hG:ir ζ ts G lo) (hl:lo≤i) (hi:i<ts.length) (fr:Int):aA ζ ts (i+2) (fW ts G fr) i b:=by
  unfold fW;refine bQ hw hi fun _ h1=>?_;refine ah (oY hw (fun u j hj h=>oF hw hG (by omega) h u) h1) fun l j h2 h3=>?_;refine bQ hw h3 fun _ h4=>?_;exact ah (bK hw hG (by omega) h4) fun r k h5 h6=>bS (by omega) h6
theorem pi (hw:WT ts) (hG:ir ζ ts G lo) (hl:lo<i) (hi:i<ts.length):aA ζ ts (i+1) (l_ ts G) i b:=by
  unfold l_;refine gH (dL hw hi fun _ h1=>?_);refine dt (aV (fun _=>?_) fun _=>aV (fun _=>?_) fun _=>?_)
  · refine vI ?_
    rw [Nat.add_sub_cancel];exact ah (ig hw hi) fun x j h2 h3=>dF (aw h2 h3)
  · exact dF (aw (Nat.le_refl _) h1)
  · exact ah (hG.typ _ _ (by omega) h1) fun x j h2 h3=>dF (aw (by omega) h3)
theorem lL (hw:WT ts) (hG:ir ζ ts G lo) (hl:lo<i) (hi:i<ts.length):aA ζ ts (i+1) (im ts G) i b:=by
  unfold im;refine gH (dL hw hi fun _ h1=>?_);refine lK (fun h0=>?_) (fun _=>?_)
  · have h2:=hw.nxt _ h1 (cF h0)
    refine jh ?_;refine ah (oY hw (fun u j hj h=>fm (hG.typ _ _ (by omega) h)) h2) fun l j h3 h4=>?_;refine bQ hw h4 fun _ h5=>?_;exact ah (bK hw hG (by omega) h5) fun r k h6 h7=>dF (aw (by omega) h7)
  · refine vI ?_
    rw [Nat.add_sub_cancel];exact ah (ig hw hi) fun x j h2 h3=>dF (aw h2 h3)
theorem Iw (hw:WT ts) (hG:ir ζ ts G lo) (hl:lo≤i) (hi:i<ts.length) (fr:Int):aA ζ ts (i+1) (qP ts G fr) i b:=by
  unfold qP;refine bU hw hi (fun h1=>?_) (bU hw hi (fun h1=>?_) fF)
  · exact ah (jN hw h1 fun j hj h=>(lL hw hG (by omega) h).less (by omega)) fun l j h2 h3=>bS (by omega) h3
  · refine ah (hG.typ _ _ (by omega) h1) fun t j h2 h3=>?_
    exact bQ hw h3 fun _ h4=>bS (by omega) h4
theorem gS (hw:WT ts) (hG:ir ζ ts G lo) (hl:lo≤i) (hi:i<ts.length):aA ζ ts (i+1) (pr ts G) i b:=by
  unfold pr;refine dt (aV (fun _=>ig hw hi) fun _=>?_);refine bU hw hi (fun h1=>ah (hG.typ _ _ (by omega) h1) fun t j h2 h3=>bS (by omega) h3) ?_;refine bU hw hi (fun h1=>bQ hw h1 fun _ h2=>ah (hG.typ _ _ (by omega) h2) fun t j h2 h3=>bS (by omega) h3) ?_;refine bU hw hi (fun h1=>ah (hG.typ _ _ (by omega) h1) fun t j h2 h3=>bS (by omega) h3) ?_;refine bU hw hi (fun h1=>(zM hw hG (by omega) h1 _).less (by omega)) ?_;refine bU hw hi (fun h1=>ah (jN hw h1 fun j hj h=>(pi hw hG (by omega) h).less (by omega)) fun l j h2 h3=>bS (by omega) h3) ?_;exact Iw hw hG hl hi _
/-! ### expressions -/
theorem oK (hw:WT ts) (hG:ir ζ ts G lo) (hl:lo<i) (hi:i<ts.length) (u:Unit):aA ζ ts (i+1) (jm ts G u) i b:=by
  unfold jm;refine dt (pg (aV (fun _=>?_) fun _=>?_))
  · refine dL hw hi fun _ h1=>bQ hw h1 fun _ h2=>?_
    exact ah (hG.expr _ _ (by omega) h2) fun x j h3 h4=>dF (aw (by omega) h4)
  · exact ah (hG.expr _ _ (by omega) hi) fun x j h3 h4=>aw (by omega) h4
theorem io (hw:WT ts) (hG:ir ζ ts G lo) (hl:lo≤i) (hi:i<ts.length) (fr:Int) (t:No):aA ζ ts (i+2) (cU ts G fr t) i b:=by
  unfold cU;refine bQ hw hi fun _ h1=>?_;refine ah (ji (eZ hw (i+1) (fun u j hj h=>oK hw hG (by omega) h u) _ _ _ (i+1) (Nat.le_refl _) h1 (by omega))) fun l i' h3 h4=>?_;exact bQ hw h4 fun _ h5=>bS (by omega) h5
theorem DN (hw:WT ts) (hG:ir ζ ts G lo) (hl:lo≤i) (hi:i<ts.length):aA ζ ts (i+1) (gh ts G) i b:=by
  unfold gh;refine dL hw hi fun _ h1=>JV (aV (fun _=>aw (Nat.le_refl _) h1) fun _=>?_);refine lK (fun _=>(io hw hG (by omega) h1 _ _).less (by omega)) (fun _=>?_);refine k_ (pg (pg (aV (fun _=>?_) fun _=>aw (Nat.le_refl _) h1)));refine vI ?_;rw [Nat.add_sub_cancel];exact ah (ig hw hi) fun x j h2 h3=>(io hw hG (by omega) h3 _ _).less (by omega)
theorem dH (hw:WT ts) (hG:ir ζ ts G lo) (hl:lo≤i) (hi:i<ts.length):aA ζ ts (i+2) (fG ts G) i b:=by
  unfold fG;refine gH (ah (ji (jN hw hi fun j hj h=>hG.stmt _ _ (by omega) h)) fun l j h2 h3=>bS (by omega) h3)
theorem rR (hw:WT ts) (hG:ir ζ ts G lo) (hl:lo<i) (hi:i<ts.length):aA ζ ts (i+1) (sN ts G) i b:=by
  unfold sN;refine lK (fun _=>?_) (fun _=>hG.expr _ _ hl hi);refine gH (k_ (ah (hG.typ _ _ hl hi) fun t j h1 h2=>?_));refine k_ (aV (fun _=>?_) fun _=>aw (by omega) h2);refine ah (io hw hG (by omega) h2 _ _) fun x j2 h3 h4=>?_;refine ah (hG.suffixes _ _ _ (by omega) h4) fun y j3 h5 h6=>?_;exact (hG.binary _ _ _ _ (by omega) (by omega) h6).less (by split <;> omega)
theorem tu (hw:WT ts) (hG:ir ζ ts G lo) (hl:lo≤i) (hi:i<ts.length):aA ζ ts (i+1) (dY ts G) i b:=by
  unfold dY;refine dt (aV (fun h=>?_) fun _=>aV (fun h=>?_) fun _=>aV (fun h=>DN hw hG hl hi) fun _=>?_)
  · exact fQ (bS (Nat.le_refl _) (hw.nxt i hi (by rw [h];decide)))
  · exact fQ (bS (Nat.le_refl _) (hw.nxt i hi (by rw [h];decide)))
  refine bU hw hi (fun h1=>?_) (bU hw hi (fun h1=>?_) (lK (fun h0=>?_) (fun _=>fF)))
  · refine ah (ji (hG.expr _ _ (by omega) h1)) fun x j h2 h3=>?_
    exact bQ hw h3 fun _ h4=>bS (by omega) h4
  · refine ah (eD hw hG (by omega) h1) fun a j h2 h3=>?_
    refine ah (bK hw hG (by omega) h3) fun r k h4 h5=>?_;exact ah (dH hw hG (by omega) h5) fun c l h6 h7=>bS (by omega) h7
  · refine ah (gS hw hG hl hi) fun x j h2 h3=>?_
    exact (io hw hG (by omega) h3 _ _).less (by omega)
theorem oN (hw:WT ts) (hG:ir ζ ts G lo) (hl:lo<i) (hi:i<ts.length) (q:Bool):aA ζ ts (i+1) (jq ts G q) i b:=by
  unfold jq;refine aV (fun _=>fF) fun _=>?_;refine ah (rR hw hG hl hi) fun x j h1 h2=>?_;exact ka hw h2 (fun _ h3=>aw (by omega) h3) (fun _=>aw (by omega) h2)
theorem Cq (hw:WT ts) (hG:ir ζ ts G lo) (hl:lo<i) (hi:i<ts.length) (x:No):aA ζ ts (i+1) (li ts G x) i b:=by
  unfold li;refine ah (ji (eZ hw i (fun u j hj h=>oN hw hG (by omega) h u) _ _ _ i (Nat.le_refl _) hi (by omega))) fun l j h1 h2=>?_;exact bQ hw h2 fun _ h3=>bS (by omega) h3
theorem Dh (hw:WT ts) (hG:ir ζ ts G lo) (hl:lo≤i) (hi:i<ts.length) (x:No) :
    (ζ→∃ r,eI ts G x (i,b)=some r)∧∀ a s',eI ts G x (i,b)=some (.ok (a,s'))→(if a.2=true then i+1 else i)≤s'.1∧s'.1<ts.length∧s'.2=b:=by
  have key:∀ {x:PM (No×Bool)},aA ζ ts (i+1) x (i+1) b→(ζ→∃ r,x (i+1,b)=some r)∧∀ a s',x (i+1,b)=some (.ok (a,s'))→(if a.2=true then i+1 else i)≤s'.1∧s'.1<ts.length∧s'.2=b:=
    fun h=>⟨h.1,fun a s' e=>⟨by have:=(h.2 a s' e).1;split <;> omega,(h.2 a s' e).2⟩⟩
  have tk:∀ {l:List ByteArray} {x y:PM (No×Bool)},(i+1<ts.length→aA ζ ts (i+1) x (i+1) b)→((ζ→∃ r,y (i,b)=some r)∧∀ a s',y (i,b)=some (.ok (a,s'))→(if a.2=true then i+1 else i)≤s'.1∧s'.1<ts.length∧s'.2=b)→
      ((ζ→∃ r,(bc ts l >>= fun q=>if q=true then x else y) (i,b)=some r)∧∀ a s',(bc ts l >>= fun q=>if q=true then x else y) (i,b)=some (.ok (a,s'))→(if a.2=true then i+1 else i)≤s'.1∧s'.1<ts.length∧s'.2=b):=by
    intro l x y hx hy;by_cases h:oneOf (ap ts i) l=true
    · have e:(bc ts l >>= fun q=>if q=true then x else y) (i,b)=x (i+1,b):=by
        rw [bind_def];unfold bc;rw [if_pos h];rfl
      rw [e];exact key (hx (hw.nxt i hi (cF h)))
    · have e:(bc ts l >>= fun q=>if q=true then x else y) (i,b)=y (i,b):=by
        rw [bind_def];unfold bc;rw [if_neg h];rfl
      rw [e];exact hy
  unfold eI;refine tk (fun h1=>?_) (tk (fun h1=>?_) (tk (fun h1=>?_) ?_))
  · refine bU hw h1 (fun h2=>?_) ?_
    · refine ah (hG.typ _ _ (by omega) h2) fun t j h3 h4=>?_
      exact bQ hw h4 fun _ h5=>dF (aw (by omega) h5)
    · exact dL hw h1 fun _ h2=>dF (aw (by omega) h2)
  · refine ah (ji (eZ hw (i+1) (fun u j hj h=>fm (rR hw hG (by omega) h)) _ _ _ (i+1) (Nat.le_refl _) h1 (by omega))) fun l j h2 h3=>?_
    exact bQ hw h3 fun _ h5=>dF (aw (by omega) h5)
  · exact ah (Cq hw hG (by omega) h1 _) fun y j h2 h3=>aw (by omega) h3
  · refine ⟨fun _=>⟨_,rfl⟩,fun a s' e=>?_⟩
    have e:(.ok ((x,false),(i,b)):Except Int ((No×Bool)×Ps)) = .ok (a,s'):=Option.some.inj e;cases e;exact ⟨Nat.le_refl _,hi,rfl⟩
theorem pK (hw:WT ts) (hG:ir ζ ts G lo):∀ (f:Nat) (x:No) (i:Nat),lo≤i→i<ts.length→ts.length<f+i→aA ζ ts i (cw ts G f x) i b
  | 0,_,i,_,h,h'=>by omega
  | f+1,x,i,hl,h,h'=>by
    unfold cw;obtain ⟨et,h2⟩:=Dh (b:=b) hw hG hl h x;have e:=bind_def (eI ts G x) (fun y=>if y.2=true then cw ts G f y.1 else pure y.1) (i,b);unfold aA;rw [e];cases hr:eI ts G x (i,b) with
    | none=>exact ⟨fun hz=>absurd (et hz) (by rw [hr];rintro ⟨_,h⟩;cases h),fun a s' h=>by cases h⟩
    | some r=>
    cases r with
    | error p=>exact ⟨fun _=>⟨_,rfl⟩,fun a s' h=>by cases Option.some.inj h⟩
    | ok az=>
      obtain ⟨⟨y,q⟩,i',b'⟩:=az;obtain ⟨k1,k2,k3⟩:=h2 _ _ hr;simp only at k1 k2 k3;subst b';cases q with
      | true=>
        (have k1:i+1≤i':=by simpa using k1);exact (pK hw hG f y i' (by omega) k2 (by omega)).less (m':=i) (by omega)
      | false=>
        (have k1:i≤i':=by simpa using k1);exact aw k1 k2
theorem qU (hw:WT ts) (hG:ir ζ ts G lo) (hl:lo≤i) (hi:i<ts.length) (x:No):aA ζ ts i (eT ts G x) i b:=
  pK hw hG _ x i hl hi (by omega)
theorem oy (hw:WT ts) (hG:ir ζ ts G lo) (hl:lo≤i) (hi:i<ts.length):aA ζ ts (i+1) (eX ts G) i b:=by
  unfold eX;exact ah (tu hw hG hl hi) fun x j h1 h2=>(qU hw hG (by omega) h2 x).less (by omega)
theorem kP (hw:WT ts) (hG:ir ζ ts G lo) (hl:lo≤i) (hi:i<ts.length):aA ζ ts (i+1) (fY ts G) i b:=by
  unfold fY;refine dt (bU hw hi (fun h1=>?_) (oy hw hG hl hi));exact ah (hG.unary _ _ (by omega) h1) fun x j h2 h3=>bS (by omega) h3
theorem FD {t:Tk} {r:Nat} (h:r<dm t):t.k≠7:=by
  intro e;unfold dm at h;rw [if_pos (by rw [e];decide)] at h;omega
theorem Bh (hG:ir ζ ts G lo) (r:Nat):∀ (f:Nat) (y:No) (i:Nat),lo<i→i<ts.length→ts.length<f+i→aA ζ ts i (j8 ts G r f y) i b
  | 0,_,i,_,h,h'=>by omega
  | f+1,y,i,hl,h,h'=>by
    unfold j8;refine dt (aV (fun hr=>?_) fun _=>aw (Nat.le_refl _) h);have hb:=hG.binary y (r+1) i b (by omega) hl h;rw [if_neg (by omega)] at hb;exact ah hb fun z j h1 h2=>(Bh hG r f z j (by omega) h2 (by omega)).less (by omega)
theorem tM (hw:WT ts) (hG:ir ζ ts G lo) (r:Nat) (hr:0<r):∀ (f:Nat) (y:No) (i:Nat),lo≤i→i<ts.length→ts.length<f+i→aA ζ ts (if dm (ap ts i)<r then i else i+1) (eM ts G r f y) i b
  | 0,_,i,_,h,h'=>by omega
  | f+1,y,i,hl,h,h'=>by
    unfold eM;by_cases hk:dm (ap ts i)<r
    · rw [if_pos hk]
      exact dt (aV (fun _=>aw (Nat.le_refl _) h) fun h=>absurd hk h)
    · rw [if_neg hk]
      refine dt (aV (fun h=>absurd h hk) fun _=>?_);have h1:=hw.nxt i h (FD (r:=0) (by omega));refine fQ (ah (hG.unary _ _ (by omega) h1) fun x j h2 h3=>?_);refine ah (Bh hG _ _ _ _ (by omega) h3 (by omega)) fun z k h4 h5=>?_;exact dF ((tM hw hG r hr f _ k (by omega) h5 (by omega)).less (by split <;> omega))
theorem wh (hw:WT ts) (hG:ir ζ ts G lo) (hl:lo≤i) (hi:i<ts.length) (x:No) (r:Nat) (hr:0<r):aA ζ ts (if dm (ap ts i)<r then i else i+1) (js ts G x r) i b:=
  tM hw hG r hr _ x i hl hi (by omega)
end
section
variable {ζ:Prop} {ts:List Tk} {G:Gr} {lo i:Nat} {b:Bool}
theorem expr_fin (hw:WT ts) (hG:ir ζ ts G lo) (hl:lo≤i) (hi:i<ts.length):aA ζ ts (i+1) (dM ts G) i b:=by
  unfold dM;exact ah (kP hw hG hl hi) fun x j h1 h2=>(wh hw hG (by omega) h2 x 1 (by omega)).less (by split <;> omega)
theorem iy {α:Type} {m:Nat} {q:Bool} {x y:PM α} (h1:aA ζ ts m x i b) (h2:aA ζ ts m y i b):aA ζ ts m (if q=true then x else y) i b:=aV (fun _=>h1) (fun _=>h2)
theorem mM (hw:WT ts) (hG:ir ζ ts G lo) (hl:lo≤i) (hi:i<ts.length) (h0:(ap ts i).k≠7):aA ζ ts (i+1) (fk ts G) i b:=by
  unfold fk;have h1:=hw.nxt i hi h0;refine jh (dL hw h1 fun _ h2=>k_ (ah (m:=i+2) (iy (aw (Nat.le_refl _) h2) ((gS hw hG (by omega) h2).less (by omega))) fun ty j h3 h4=>?_));refine ka hw h4 (fun _ h5=>?_) (fun _=>?_)
  · exact ah (m:=j+1) (iy ((expr_fin hw hG (by omega) h5).less (by omega)) (aw (Nat.le_refl _) h5)) fun x k h6 h7=>bS (by omega) h7
  · exact ah (m:=j) (iy ((expr_fin hw hG (by omega) h4).less (by omega)) (aw (Nat.le_refl _) h4)) fun x k h6 h7=>bS (by omega) h7
theorem nd (hw:WT ts) (hG:ir ζ ts G lo) (hl:lo≤i) (hi:i<ts.length) (h0:(ap ts i).k≠7):aA ζ ts (i+1) (fx ts G) i b:=by
  unfold fx;have h1:=hw.nxt i hi h0;refine jh (dL hw h1 fun _ h2=>k_ (ah (m:=i+2) (iy (aw (Nat.le_refl _) h2) ((gS hw hG (by omega) h2).less (by omega))) fun ty j h3 h4=>?_));refine bQ hw h4 fun _ h5=>ah (expr_fin hw hG (by omega) h5) fun x k h6 h7=>bS (by omega) h7
theorem nh (hw:WT ts) (hG:ir ζ ts G lo) (hl:lo≤i) (hi:i<ts.length) (k fr:Int):aA ζ ts (i+1) (jp ts G k fr) i b:=by
  unfold jp;exact ah (oy hw hG hl hi) fun x j h1 h2=>aV (fun _=>bS h1 h2) (fun _=>fF)
theorem vt (hw:WT ts) (hG:ir ζ ts G lo):∀ (f:Nat) (l:List No) (i:Nat),lo≤i→i<ts.length→ts.length<f+i→aA ζ ts i (jb ts G f l) i b
  | 0,_,i,_,h,h'=>by omega
  | f+1,l,i,hl,h,h'=>by
    unfold jb;refine bU hw h (fun h1=>?_) (aw (Nat.le_refl _) h);exact ah (expr_fin hw hG (by omega) h1) fun x j h2 h3=>(vt hw hG f _ j (by omega) h3 (by omega)).less (by omega)
theorem fX (hw:WT ts) (hG:ir ζ ts G lo) (hl:lo≤i) (hi:i<ts.length):aA ζ ts (i+1) (gI ts G) i b:=by
  unfold gI;exact ah (expr_fin hw hG hl hi) fun x j h1 h2=>(vt hw hG _ _ j (by omega) h2 (by omega)).less (by omega)
theorem mS (hw:WT ts) (hG:ir ζ ts G lo) (hl:lo≤i) (hi:i<ts.length) {σ:Type} {I2:List No→PM (Option σ)} (ho:∀ l j,i<j→j<ts.length→aA ζ ts j (I2 l) j b):aA ζ ts (i+1) (dx ts G I2) i b:=by
  unfold dx;refine gH (ah (fX hw hG hl hi) fun l j h1 h2=>dt ?_);refine aV (fun hq=>?_) fun _=>aV (fun hq=>?_) fun _=>aV (fun hq=>?_) fun _=>aV (fun hq=>?_) fun _=>aV (fun hq=>?_) fun _=>aV (fun _=>?_) fun _=>fF
  · have h3:=hw.nxt j h2 (cF hq.2)
    exact fQ (ah (expr_fin hw hG (by omega) h3) fun x k h4 h5=>dF (aw (by omega) h5))
  · have h3:=hw.nxt j h2 (cF hq)
    refine fQ (ah (expr_fin hw hG (by omega) h3) fun x k h4 h5=>?_);exact ah (vt hw hG _ _ k (by omega) h5 (by omega)) fun r n h6 h7=>dF (aw (by omega) h7)
  · have h3:=hw.nxt j h2 (cF hq.2)
    exact fQ (ah (expr_fin hw hG (by omega) h3) fun x k h4 h5=>dF (aw (by omega) h5))
  · have h3:=hw.nxt j h2 (cF hq.2)
    exact fQ (dF (aw (by omega) h3))
  · have h3:=hw.nxt j h2 (cF hq.2)
    refine fQ (ah (ho l _ (by omega) h3) fun o k h4 h5=>?_);cases o with
    | some u=>exact aw (by omega) h5
    | none=>exact ah (fX hw hG (by omega) h5) fun r n h6 h7=>dF (aw (by omega) h7)
  · exact dF (aw (by omega) h2)
theorem fD (hw:WT ts) (hG:ir ζ ts G lo) (hl:lo≤i) (hi:i<ts.length):aA ζ ts (i+1) (gg ts G) i b:=by
  unfold gg;exact ah (mS hw hG hl hi fun l j _ h=>aw (Nat.le_refl _) h) fun x j h1 h2=>aw h1 h2
theorem vw (hw:WT ts) (hG:ir ζ ts G lo) (hl:lo≤i) (hi:i<ts.length):aA ζ ts (i+1) (jX ts G) i b:=by
  unfold jX;refine ah (fD hw hG hl hi) fun n j h1 h2=>dt (aV (fun hq=>?_) fun _=>aV (fun _=>aw h1 h2) fun _=>fF);have h3:=hw.nxt j h2 (by rw [hq];decide);exact fQ (ah (expr_fin hw hG (by omega) h3) fun x k h4 h5=>aw (by omega) h5)
theorem qu (hw:WT ts) (hG:ir ζ ts G lo) (hl:lo≤i) (hi:i<ts.length) (h0:(ap ts i).k≠7):aA ζ ts (i+1) (jr ts G) i b:=by
  unfold jr;have h1:=hw.nxt i hi h0;refine jh (ah (ji (vw hw hG (by omega) h1)) fun h j h2 h3=>?_);refine ah (dH hw hG (by omega) h3) fun c k h4 h5=>?_;refine bU hw h5 (fun h6=>?_) (bS (by omega) h5);refine dt (aV (fun hq=>?_) fun _=>aV (fun _=>?_) fun _=>fF)
  · exact ah (hG.branch _ _ (by omega) h6 hq) fun o n h7 h8=>bS (by omega) h8
  · exact ah (dH hw hG (by omega) h6) fun o n h7 h8=>bS (by omega) h8
theorem qk (hw:WT ts) (hG:ir ζ ts G lo) (hl:lo≤i) (hi:i<ts.length) (l:List No):aA ζ ts (i+1) (gU ts G l) i b:=by
  unfold gU;exact bQ hw hi fun _ h1=>ah (expr_fin hw hG (by omega) h1) fun x j h2 h3=>aw (by omega) h3
theorem sH (hw:WT ts) (hG:ir ζ ts G lo) (hl:lo≤i) (hi:i<ts.length) (l:List No):aA ζ ts i (mC ts G l) i b:=by
  unfold mC;refine k_ (aV (fun _=>?_) fun _=>aw (Nat.le_refl _) hi);exact ah (qk hw hG hl hi l) fun r j h1 h2=>aw (by omega) h2
theorem tE (hw:WT ts) (hG:ir ζ ts G lo) (hl:lo≤i) (hi:i<ts.length) (n:No):aA ζ ts i (gG ts G n) i b:=by
  unfold gG;refine mD hw hi fun _ h1=>dt (ah (m:=i+1) (aV (fun _=>aw (Nat.le_refl _) h1) fun _=>(expr_fin hw hG (by omega) h1).less (by omega)) fun c j h2 h3=>?_);refine mD hw h3 fun _ h4=>k_ (ah (m:=j+1) (iy (aw (Nat.le_refl _) h4) ((fD hw hG (by omega) h4).less (by omega))) fun s k h5 h6=>aw (by omega) h6)
theorem tF (hw:WT ts) (hG:ir ζ ts G lo) (hl:lo≤i) (hi:i<ts.length):aA ζ ts i (il ts G) i b:=by
  unfold il;refine dt (aV (fun _=>aw (Nat.le_refl _) hi) fun _=>aV (fun _=>?_) fun _=>aV (fun _=>tE hw hG hl hi _) fun _=>?_)
  · exact ah (qk hw hG hl hi _) fun r j h1 h2=>aw (by omega) h2
  · refine ah (mS hw hG hl hi fun l j h1 h2=>sH hw hG (by omega) h2 l) fun x j h1 h2=>?_
    cases x with
    | inr r=>exact aw (by omega) h2
    | inl n=>exact dt (aV (fun _=>(tE hw hG (by omega) h2 n).less (by omega)) fun _=>aV (fun _=>aw (by omega) h2) fun _=>fF)
theorem Bw (hw:WT ts) (hG:ir ζ ts G lo) (hl:lo≤i) (hi:i<ts.length) (fr:Int):aA ζ ts i (pQ ts G fr) i b:=by
  unfold pQ;refine ah (ji (tF hw hG hl hi)) fun h j h1 h2=>?_;refine ah (dH hw hG (by omega) h2) fun c k h3 h4=>?_;cases h with
  | inr r=>exact bS (by omega) h4
  | inl x=>exact bS (by omega) h4
theorem tK (hw:WT ts) (hG:ir ζ ts G lo) (hl:lo≤i) (hi:i<ts.length) (k:Int) {head:PM No} (hh:∀ j,i<j→j<ts.length→aA ζ ts j head j b):aA ζ ts (i+1) (jo ts G k head) i b:=by
  unfold jo
  have tail:∀ (h:No) j,i≤j→j<ts.length→aA ζ ts (i+1) (do
      let c ← cE ts ⟨#[58]⟩
      let l ← rowP ts lO G.stmt (ts.length+1) []
      pure (No.mk k (ap ts i).fr (kr c.to l) ⟨#[]⟩ (h :: l))) j b:=fun h j h1 h2=>
    bQ hw h2 fun _ h3=>ah (pf hw (j+1) (fun n hn h=>hG.stmt _ _ (by omega) h) _ _ (j+1) (Nat.le_refl _) h3 (by omega)) fun l n h4 h5=>aw (by omega) h5
  refine gH (ka hw hi (fun _ h1=>?_) (fun _=>?_))
  · exact ah (m:=i) (iy (aw (by omega) h1) (bQ hw h1 fun _ h2=>(hh _ (by omega) h2).less (by omega))) fun h j h1 h2=>tail h j h1 h2
  · exact ah (m:=i) (iy (aw (by omega) hi) (bQ hw hi fun _ h2=>(hh _ (by omega) h2).less (by omega))) fun h j h1 h2=>tail h j h1 h2
theorem v7 (hw:WT ts) (hG:ir ζ ts G lo) (k:Int) {head:PM No} (hh:∀ j,lo<j→j<ts.length→aA ζ ts j head j b):∀ (f:Nat) (out:List No) (i:Nat),lo≤i→i<ts.length→ts.length<f+i→aA ζ ts i (jn ts G k head f out) i b
  | 0,_,i,_,h,h'=>by omega
  | f+1,out,i,hl,h,h'=>by
    unfold jn;refine lK (fun _=>aw (Nat.le_refl _) h) (fun _=>?_);exact ah (tK hw hG hl h k fun j h1 h2=>hh j (by omega) h2) fun x j h1 h2=>(v7 hw hG k hh f _ j (by omega) h2 (by omega)).less (by omega)
theorem mI (hw:WT ts) (hG:ir ζ ts G lo) (hl:lo≤i) (hi:i<ts.length) (k:Int) {head:PM No} (hh:∀ j,lo<j→j<ts.length→aA ζ ts j head j false):aA ζ ts i (jO ts G k head) i b:=by
  unfold jO;refine bQ hw hi fun _ h1=>ah (ji (v7 hw hG k hh _ _ (i+1) (by omega) h1 (by omega))) fun l j h2 h3=>?_;exact bQ hw h3 fun _ h4=>aw (by omega) h4
theorem iH (hw:WT ts) (hG:ir ζ ts G lo) (hl:lo≤i) (hi:i<ts.length):aA ζ ts (i+1) (gq ts G) i b:=by
  unfold gq;exact ah (fX hw hG hl hi) fun l j h1 h2=>aw h1 h2
theorem vZ (hw:WT ts) (hG:ir ζ ts G lo) (hl:lo≤i) (hi:i<ts.length) (fr:Int):aA ζ ts i (jZ ts G fr) i b:=by
  unfold jZ;refine ah (ji (expr_fin hw hG hl hi)) fun x j h1 h2=>?_;exact ah (mI hw hG (by omega) h2 76 fun k hk h=>(iH hw hG (by omega) h).less (by omega)) fun l k h3 h4=>bS (by omega) h4
theorem vY (hw:WT ts) (hG:ir ζ ts G lo) (hl:lo≤i) (hi:i<ts.length):aA ζ ts (i+1) (oL ts G) i b:=by
  unfold oL;refine gH (dt (pg (aV (fun _=>?_) fun _=>?_)))
  · have tail:∀ (n m:No) j,i<j→j<ts.length→aA ζ ts (i+1) (do
        let _ ← cE ts ⟨#[58,61]⟩
        let _ ← cE ts ⟨#[60,45]⟩
        let x ← fY ts G
        bd ts 79 (ap ts i).fr ⟨#[]⟩ [n,m,x]) j b:=fun n m j h1 h2=>
      bQ hw h2 fun _ h3=>bQ hw h3 fun _ h4=>ah (kP hw hG (by omega) h4) fun x k h5 h6=>bS (by omega) h6
    refine dL hw hi fun _ h1=>ka hw h1 (fun _ h2=>?_) (fun _=>?_)
    · exact ah (m:=i+1) (iy (rH hw h2 (by omega)) (aw (by omega) h2)) fun m j h3 h4=>tail _ m j (by omega) h4
    · exact ah (m:=i+1) (iy (rH hw h1 (by omega)) (aw (by omega) h1)) fun m j h3 h4=>tail _ m j (by omega) h4
  · refine ah (expr_fin hw hG hl hi) fun x j h1 h2=>bU hw h2 (fun h3=>?_) (aV (fun _=>bS h1 h2) fun _=>fF)
    exact ah (expr_fin hw hG (by omega) h3) fun y k h4 h5=>bS (by omega) h5
theorem yo (hw:WT ts) (hG:ir ζ ts G lo) (hl:lo≤i) (hi:i<ts.length) (fr:Int):aA ζ ts i (mc ts G fr) i b:=by
  unfold mc;exact ah (mI hw hG hl hi 78 fun k hk h=>(vY hw hG (by omega) h).less (by omega)) fun l k h3 h4=>bS (by omega) h4
theorem jL {m:Nat} {x:PM No} (h:aA ζ ts m x i b):aA ζ ts m (pw x) i b:=ah h fun _ _ h1 h2=>aw h1 h2
theorem Gm (hw:WT ts) (hG:ir ζ ts G lo) (hl:lo≤i) (hi:i<ts.length) (fr:Int):aA ζ ts i (mP ts G fr) i b:=by
  unfold mP;refine bU hw hi (fun h1=>jL (bS (by omega) h1)) ?_;refine bU hw hi (fun h1=>jL (bS (by omega) h1)) ?_;refine lK (fun h=>jL ((qu hw hG hl hi (cF h)).less (by omega))) (fun _=>?_);refine bU hw hi (fun h1=>jL ((Bw hw hG (by omega) h1 fr).less (by omega))) ?_;refine bU hw hi (fun h1=>jL ((vZ hw hG (by omega) h1 fr).less (by omega))) ?_;refine bU hw hi (fun h1=>jL ((yo hw hG (by omega) h1 fr).less (by omega))) ?_;exact jL ((fD hw hG hl hi).less (by omega))
theorem IC (hw:WT ts) (hG:ir ζ ts G lo) (hl:lo≤i) (hi:i<ts.length):aA ζ ts i (pL ts G) i b:=by
  unfold pL
  refine dt (aV (fun _=>aw (Nat.le_refl _) hi) fun _=>aV (fun h=>jL ((mM hw hG hl hi (cF h)).less (by omega))) fun _=>aV (fun h=>jL ((nd hw hG hl hi (cF h)).less (by omega))) fun _=>
    aV (fun _=>jL ((dH hw hG hl hi).less (by omega))) fun _=>?_)
  refine bU hw hi (fun h1=>jL ((nh hw hG (by omega) h1 _ _).less (by omega))) ?_;refine bU hw hi (fun h1=>jL ((nh hw hG (by omega) h1 _ _).less (by omega))) ?_;refine bU hw hi (fun h1=>?_) (Gm hw hG hl hi _);exact dt (ah (m:=i) (iy ((fX hw hG (by omega) h1).less (by omega)) (aw (by omega) h1)) fun l j h2 h3=>jL (bS (by omega) h3))
end
theorem zK {ζ:Prop} {ts:List Tk} (hw:WT ts):∀ (n lo:Nat),(ζ→ts.length≤n+lo+1)→ir ζ ts (gr ts n) lo
  | 0,lo,h=>⟨fun i b h1 h2=>⟨fun z=>absurd (h z) (by omega),fun a s' e=>by cases e⟩,fun i b h1 h2=>⟨fun z=>absurd (h z) (by omega),fun a s' e=>by cases e⟩,fun i b h1 h2=>⟨fun z=>absurd (h z) (by omega),fun a s' e=>by cases e⟩,fun x r i b h0 h1 h2=>⟨fun z=>absurd (h z) (by omega),fun a s' e=>by cases e⟩,fun x i b h1 h2=>⟨fun z=>absurd (h z) (by omega),fun a s' e=>by cases e⟩,fun i b h1 h2=>⟨fun z=>absurd (h z) (by omega),fun a s' e=>by cases e⟩,fun i b h1 h2 _=>⟨fun z=>absurd (h z) (by omega),fun a s' e=>by cases e⟩⟩
  | n+1,lo,h=>by
    have ih:∀ i,lo<i→ir ζ ts (gr ts n) i:=fun i hi=>zK hw n i fun z=>by have:=h z;omega
    refine ⟨fun i b h1 h2=>gS hw (ih i h1) (Nat.le_refl _) h2,fun i b h1 h2=>expr_fin hw (ih i h1) (Nat.le_refl _) h2,fun i b h1 h2=>kP hw (ih i h1) (Nat.le_refl _) h2,fun x r i b h0 h1 h2=>wh hw (ih i h1) (Nat.le_refl _) h2 x r h0,
      fun x i b h1 h2=>qU hw (ih i h1) (Nat.le_refl _) h2 x,fun i b h1 h2=>IC hw (ih i h1) (Nat.le_refl _) h2,fun i b h1 h2 h3=>qu hw (ih i h1) (Nat.le_refl _) h2 (cF h3)⟩
section
variable {ζ:Prop} {ts:List Tk} {G:Gr} {lo i:Nat} {b:Bool}
theorem or_fin (hw:WT ts) (hG:ir ζ ts G lo):∀ (f:Nat) (l:List No) (i:Nat),lo≤i→i<ts.length→ts.length<f+i→aA ζ ts i (C4 ts G f l) i b
  | 0,_,i,_,h,h'=>by omega
  | f+1,l,i,hl,h,h'=>by
    unfold C4;refine bU hw h (fun h1=>?_) (aw (Nat.le_refl _) h);exact ah (gS hw hG (by omega) h1) fun x j h2 h3=>(or_fin hw hG f _ j (by omega) h3 (by omega)).less (by omega)
theorem lV (hw:WT ts) (hG:ir ζ ts G lo) (hl:lo≤i) (hi:i<ts.length):aA ζ ts (i+1) (eA ts G) i b:=by
  unfold eA;refine gH (dL hw hi fun _ h1=>gH (ah (gS hw hG (by omega) h1) fun x j h2 h3=>?_));refine ah (or_fin hw hG _ _ j (by omega) h3 (by omega)) fun l k h4 h5=>?_;exact ah (m:=k) (aV (fun _=>bS (Nat.le_refl _) h5) (fun _=>aw (Nat.le_refl _) h5)) fun c n h6 h7=>bS (by omega) h7
theorem xV (hw:WT ts) (hi:i<ts.length) (h0:(ap ts i).k≠7):aA ζ ts (i+1) (pN ts) i b:=by
  unfold pN;have h1:=hw.nxt i hi h0;refine jh (dL hw h1 fun _ h2=>gH (ka hw h2 (fun _ h3=>?_) (fun _=>?_)))
  · refine dL hw h3 fun _ h4=>ah (m:=i+1) (iy (bS (by omega) h4) (aw (by omega) h4)) fun t j h5 h6=>?_
    exact bQ hw h6 fun _ h7=>bS (by omega) h7
  · refine dL hw h2 fun _ h4=>ah (m:=i+1) (iy (bS (by omega) h4) (aw (by omega) h4)) fun t j h5 h6=>?_
    exact bQ hw h6 fun _ h7=>bS (by omega) h7
theorem AZ (hw:WT ts) (hG:ir ζ ts G lo) (hl:lo≤i) (hi:i<ts.length) (h0:(ap ts i).k≠7):aA ζ ts (i+1) (iY ts G) i b:=by
  unfold iY;have h1:=hw.nxt i hi h0;refine jh (ah (eZ hw (i+1) (fun u j hj h=>fm (lV hw hG (by omega) h)) _ _ _ (i+1) (Nat.le_refl _) h1 (by omega)) fun l j h2 h3=>?_);exact bQ hw h3 fun _ h4=>bS (by omega) h4
theorem zL (hw:WT ts) (hG:ir ζ ts G lo) (hl:lo≤i) (hi:i<ts.length) (h0:(ap ts i).k≠7):aA ζ ts (i+1) (fV ts G) i b:=by
  unfold fV;have h1:=hw.nxt i hi h0
  have tail:∀ (r n t:No) j,i<j→j<ts.length→aA ζ ts (i+1) (do
      let a ← iu ts G
      let q ← eW ts G
      let c ← fG ts G
      bd ts 3 (ap ts i).fr ⟨#[]⟩ [r,n,t,a,q,c]) j b:=fun r n t j h2 h3=>
    ah (eD hw hG (by omega) h3) fun a k h4 h5=>ah (bK hw hG (by omega) h5) fun q l h6 h7=>ah (dH hw hG (by omega) h7) fun c o h8 h9=>bS (by omega) h9
  refine jh (k_ (ah (m:=i+1) (aV (fun h=>(xV hw h1 (cF h)).less (by omega)) fun _=>aw (Nat.le_refl _) h1) fun r j h2 h3=>?_));refine dL hw h3 fun _ h4=>k_ (ah (m:=i+1) (aV (fun h=>(AZ hw hG (by omega) h4 (cF h.2)).less (by omega)) fun _=>aw (by omega) h4) fun t k h5 h6=>tail r _ t k (by omega) h6)
theorem Cd (hw:WT ts) (hG:ir ζ ts G lo) (hl:lo≤i) (hi:i<ts.length):aA ζ ts (i+1) (pW ts G) i b:=by
  unfold pW;refine dt (aV (fun h=>zL hw hG hl hi (cF h)) fun _=>aV (fun h=>mM hw hG hl hi (cF h)) fun _=>aV (fun h=>nd hw hG hl hi (cF h)) fun _=>aV (fun h=>?_) fun _=>fF);have h1:=hw.nxt i hi (cF h);exact fQ (dL hw h1 fun _ h2=>ah (gS hw hG (by omega) h2) fun x j h3 h4=>bS (by omega) h4)
theorem mV (hw:WT ts):∀ (f:Nat) (l:List No) (to:Int) (i:Nat),i<ts.length→ts.length<f+i→aA ζ ts i (eE ts f l to) i b
  | 0,_,_,i,h,h'=>by omega
  | f+1,l,to,i,h,h'=>by
    unfold eE;refine lK (fun h0=>?_) (fun _=>aw (Nat.le_refl _) h);have h1:=hw.nxt i h (cF h0);refine jh (dt (aV (fun hk=>?_) fun _=>fF));have h2:=hw.nxt _ h1 (by rw [hk];decide);exact fQ (dF (ED (mD hw h2 fun _ h3=>(mV hw f _ _ (i+1+1+1) h3 (by omega)).less (by omega))))
theorem yn (hw:WT ts) (hG:ir ζ ts G lo):∀ (f:Nat) (l:List No) (to:Int) (i:Nat),lo≤i→i<ts.length→ts.length<f+i→aA ζ ts i (iE ts G f l to) i b
  | 0,_,_,i,_,h,h'=>by omega
  | f+1,l,to,i,hl,h,h'=>by
    unfold iE;refine dt (aV (fun _=>aw (Nat.le_refl _) h) fun _=>?_);exact ah (Cd hw hG hl h) fun x j h1 h2=>ED (mD hw h2 fun _ h3=>(yn hw hG f _ _ (j+1) (by omega) h3 (by omega)).less (by omega))
theorem file_fin (hw:WT ts) (hG:ir ζ ts G lo) (hl:lo≤i) (hi:i<ts.length):aA ζ ts (i+1) (mE ts G) i b:=by
  unfold mE;refine bQ hw hi fun _ h1=>dL hw h1 fun _ h2=>ED (mD hw h2 fun _ h3=>?_);refine ah (mV hw _ _ _ _ h3 (by omega)) fun a j h4 h5=>?_;exact ah (yn hw hG _ _ _ j (by omega) h5 (by omega)) fun c k h6 h7=>aw (by omega) h7
theorem alone_fin (hw:WT ts) {m:Nat} {x:PM No} (h:aA ζ ts m x i b):aA ζ ts m (ky ts x) i b:=by
  unfold ky;refine ah h fun n j h1 h2=>dt (aV (fun hk=>?_) fun _=>aV (fun _=>aw h1 h2) fun _=>fF);have h3:=hw.nxt j h2 (by rw [hk];decide);exact fQ (dt (aV (fun _=>aw (by omega) h3) fun _=>fF))
end
abbrev qF (ts:List Tk) {α:Type} (m:Nat) (x:PM α) (i:Nat) (b:Bool):Prop:=aA False ts m x i b
abbrev GF (ts:List Tk) (G:Gr) (lo:Nat):Prop:=ir False ts G lo
theorem mO {ts:List Tk} {i:Nat} {b:Bool} (hw:WT ts) (hi:i<ts.length):qF ts (i+1) (dk ts) i b:=ig hw hi
theorem recv_fin {ts:List Tk} {i:Nat} {b:Bool} (hw:WT ts) (hi:i<ts.length) (h0:(ap ts i).k≠7):qF ts (i+1) (pN ts) i b:=xV hw hi h0
theorem imports_fin {ts:List Tk} {b:Bool} (hw:WT ts) (f:Nat) (l:List No) (to:Int) (i:Nat) (h:i<ts.length) (h':ts.length<f+i):qF ts i (eE ts f l to) i b:=mV hw f l to i h h'
theorem gr_fin {ts:List Tk} (hw:WT ts) (n lo:Nat):GF ts (gr ts n) lo:=zK hw n lo fun h=>h.elim
abbrev Str.WT (ts:List Tk):Prop:=Go.Proofs.YtfmgdmeopakdaaaGreatDoor.WT ts
theorem Str.gr_fin {ts:List Tk} (hw:WT ts) (n lo:Nat) (h:ts.length≤n+lo+1):ir True ts (gr ts n) lo:=zK hw n lo fun _=>h
theorem Str.file_fin {ts:List Tk} {G:Gr} {lo i:Nat} {b:Bool} (hw:WT ts) (hG:ir True ts G lo) (hl:lo≤i) (hi:i<ts.length):(∃ r,mE ts G (i,b)=some r)∧True:=⟨(Go.Proofs.YtfmgdmeopakdaaaGreatDoor.file_fin hw hG hl hi).1 trivial,trivial⟩
theorem Str.expr_fin {ts:List Tk} {G:Gr} {lo i:Nat} {b:Bool} (hw:WT ts) (hG:ir True ts G lo) (hl:lo≤i) (hi:i<ts.length):(∃ r,dM ts G (i,b)=some r)∧True:=⟨(Go.Proofs.YtfmgdmeopakdaaaGreatDoor.expr_fin hw hG hl hi).1 trivial,trivial⟩
end Go.Proofs.YtfmgdmeopakdaaaGreatDoor
