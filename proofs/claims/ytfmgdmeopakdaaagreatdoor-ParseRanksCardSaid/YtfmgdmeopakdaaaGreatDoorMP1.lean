/- Base PaM PaTq PaT2q: parts of one proof. -/
import Derived.WalkKit
import Derived.Below
import Derived.Lib.Hide
import Derived.Laws.OwnMore
import Derived.Maps.AppendAt
import Derived.Deep.AppendLies
import Derived.Deep.Draws
set_option linter.unusedVariables false
set_option linter.unusedSimpArgs false
namespace Go.Proofs.YtfmgdmeopakdaaaGreatDoor
open Go Go.RowKit
theorem zh {p : Prop} (h : p) : Hid p := Lib.hid h
theorem zl1 {α : Type _} {xs : List α} {i : Nat} (h : i < xs.toArray.size) : xs.toArray[i] = xs[i]'(by simpa using h) := List.getElem_toArray h
theorem zl2 {α : Type _} (x : α) (l : List α) (h : 0 < (x :: l).length) : (x :: l)[0] = x := List.getElem_cons_zero x l h
theorem zl3 {α : Type _} (x : α) (l : List α) (i : Nat) (h : i + 1 < (x :: l).length) : (x :: l)[i + 1] = l[i]'(by simpa using h) := List.getElem_cons_succ x l i h
theorem zl4 {α : Type _} (l : List α) (i : Nat) (x : α) : l.toArray.setIfInBounds i x = (l.set i x).toArray := List.setIfInBounds_toArray l i x
theorem zl5 {α : Type _} {y : α} {l : List α} {x : α} : (y :: l).set 0 x = x :: l := List.set_cons_zero
theorem zl6 {α : Type _} {y : α} {l : List α} {i : Nat} {x : α} : (y :: l).set (i + 1) x = y :: l.set i x := List.set_cons_succ
theorem drop_at {α:Type} (l:List α) (i:Nat) (h:i<l.length):l.drop i=l[i] :: l.drop (i+1):=List.drop_eq_getElem_cons h
theorem drop_end {α:Type} (l:List α) (i:Nat) (h:l.length≤i):l.drop i=[]:=List.drop_eq_nil_of_le h
def SameOn (S:Nat→Prop) (w w':World):Prop:=∀ b,S b→w'.heap[b]? = w.heap[b]?
def Old (S:Nat→Prop) (w:World):Prop:=∀ b,S b→b<w.heap.size
def New (w w':World) (b:Nat):Prop:=w.heap.size≤b∧b<w'.heap.size
theorem SameOn.cell {S:Nat→Prop} {w w':World} (h:SameOn S w w') {b:Nat} (hb:S b) (o:Nat):w'.cell? ⟨b,o,none⟩=w.cell? ⟨b,o,none⟩:=
  World.cell?_of_block (a:=⟨b,o,none⟩) (h b hb)
theorem SameOn.of_below {S:Nat→Prop} {B:Nat} {w w':World} (h:Below B w w') (hS:∀ b,S b→b<B):SameOn S w w':=fun b hb=>h.block b (hS b hb)
theorem SameOn.of_grown {S:Nat→Prop} {row:Option Nat} {w w':World} (h:w.grownBy w' row) (hS:Old S w) (hr:∀ b,S b→some b≠row):SameOn S w w':=
  fun b hb=>h.block b (hS b hb) (hr b hb)
theorem SameOn.trans {S:Nat→Prop} {a b c:World} (h:SameOn S a b) (k:SameOn S b c):SameOn S a c:=fun i hi=>(k i hi).trans (h i hi)
theorem Old.below {S:Nat→Prop} {B:Nat} {w w':World} (h:Old S w) (hb:Below B w w'):Old S w':=fun b hs=>Nat.lt_of_lt_of_le (h b hs) hb.size
theorem cell_below {B:Nat} {W w1:World} (hb:Below B W w1) {b o:Nat} (h:b<B):w1.cell? ⟨b,o,none⟩=W.cell? ⟨b,o,none⟩:=hb.cell (p:=⟨b,o,none⟩) h
theorem frozen_below {B:Nat} {W w1:World} (hb:Below B W w1) {b o:Nat} (h:b<B):w1.frozen? ⟨b,o,none⟩=W.frozen? ⟨b,o,none⟩:=hb.frozen (p:=⟨b,o,none⟩) h
theorem below_drewN {B:Nat} {a w:World} (h:Below B a w) (n:Nat):Below B a (w.drewN n):=h.trans ⟨rfl,rfl,rfl,Nat.le_refl _,fun _ _=>rfl⟩
theorem below_of_grown {w w':World} (h:w.grownBy w' none):Below w.heap.size w w':=⟨h.os,h.tape,h.output,h.size,fun k hk=>h.block k hk (by simp)⟩
theorem grown_of_below {w w':World} (h:Below w.heap.size w w') (row:Option Nat):w.grownBy w' row:=⟨h.os,h.tape,h.output,h.size,fun k hk _=>h.block k hk⟩
def Row (w:World) (S:Nat→Prop) (size:Nat) (v:Value) (n:Nat) (xs:List Value):Prop:=
  xs.length=n * size∧∃ A cap,v = .slice A n cap∧n≤cap∧cap≤maxLen∧(A=none→cap=0)∧
    (0<n→∃ b o,A=some ⟨b,o,none⟩∧S b∧∀ j u,xs[j]? = some u→w.cell? ⟨b,o+j,none⟩=some u)
section
variable {w w':World} {S S':Nat→Prop} {size n:Nat} {v:Value} {xs:List Value}
theorem Row.keep (h:Row w S size v n xs) (hs:SameOn S w w'):Row w' S size v n xs:=by
  obtain ⟨h1,A,cap,rfl,h2,h3,h0,h4⟩:=h;refine ⟨h1,A,cap,rfl,h2,h3,h0,fun hn=>?_⟩;obtain ⟨b,o,rfl,h5,h7⟩:=h4 hn;exact ⟨b,o,rfl,h5,fun j u hu=>(hs.cell h5 _).trans (h7 j u hu)⟩
theorem Row.more (h:Row w S size v n xs) (h1:∀ b,S b→S' b):Row w S' size v n xs:=by
  obtain ⟨g1,A,cap,rfl,g2,g3,h0,g4⟩:=h;refine ⟨g1,A,cap,rfl,g2,g3,h0,fun hn=>?_⟩;obtain ⟨b,o,rfl,h5,h7⟩:=g4 hn;exact ⟨b,o,rfl,h1 b h5,h7⟩
theorem Row.form (h:Row w S size v n xs):∃ A cap,v = .slice A n cap∧n≤9223372036854775807:=by
  obtain ⟨h1,A,cap,rfl,h2,h3,_⟩:=h;exact ⟨A,cap,rfl,by unfold maxLen at h3;omega⟩
theorem Row.nil_:Row w S size (.slice none 0 0) 0 []:=⟨by simp,none,0,rfl,Nat.le_refl _,Nat.zero_le _,fun _=>rfl,fun h=>absurd h (by omega)⟩
theorem Row.at1 (h:Row w S 1 v n xs) {k:Nat} (hk:k<n):∃ b o cap u,v = .slice (some ⟨b,o,none⟩) n cap∧S b∧xs[k]? = some u∧w.cell? ⟨b,o+k,none⟩=some u:=by
  obtain ⟨h1,A,cap,rfl,h2,h3,h0,h4⟩:=h;obtain ⟨b,o,rfl,h5,h7⟩:=h4 (by omega);(have hl:k<xs.length:=by omega);exact ⟨b,o,cap,xs[k],rfl,h5,List.getElem?_eq_getElem hl,h7 k _ (List.getElem?_eq_getElem hl)⟩
theorem Row.of_own {base:Nat} {e:TypeId} (h:w.ownsRow base e size v n xs) (hS:∀ b,v.ownBlock=some b→S b):Row w S size v n xs:=by
  refine ⟨h.1,?_⟩;have h':=h;rcases h.2 with ⟨rfl,rfl⟩ | ⟨g,cap,cur,rfl,hg,hh,hnc,hcm,hcs,ht⟩
  · exact ⟨none,0,rfl,Nat.le_refl _,Nat.zero_le _,fun _=>rfl,fun h=>absurd h (by omega)⟩
  · refine ⟨_,cap,rfl,hnc,hcm,(fun e=>by cases e),fun hn=>⟨g,0,rfl,hS g rfl,fun j u hu=>?_⟩⟩
    have:=h'.cells (g:=g) rfl j u hu;rw [Nat.zero_add];unfold Addr.add at this;split at this
    · rename_i h0;subst h0;exact this
    · simpa using this
end
inductive T where
  | mk (k:Int) (nm:ByteArray) (n:Int) (f:Bool) (ns:List ByteArray) (ms:List Bool) (ks:List T)
def T.kd:T→Int | .mk k _ _ _ _ _ _=>k
def T.nm:T→ByteArray | .mk _ nm _ _ _ _ _=>nm
def T.n:T→Int | .mk _ _ n _ _ _ _=>n
def T.fl:T→Bool | .mk _ _ _ f _ _ _=>f
def T.ns:T→List ByteArray | .mk _ _ _ _ ns _ _=>ns
def T.ms:T→List Bool | .mk _ _ _ _ _ ms _=>ms
def T.ks:T→List T | .mk _ _ _ _ _ _ ks=>ks
mutual
def TyR (w:World) (S:Nat→Prop):T→List Value→Prop
  | .mk k nm n f ns ms ks,cs=>∃ vn vm vk xs,cs=[.int .i64 k,.string nm,.int .i64 n,.bool f,vn,vm,vk]∧
      Row w S 1 vn ns.length (ns.map .string)∧Row w S 1 vm ms.length (ms.map .bool)∧
      Row w S 7 vk ks.length xs∧TysR w S ks xs
def TysR (w:World) (S:Nat→Prop):List T→List Value→Prop
  | [],cs=>cs=[]
  | t :: ts,cs=>∃ c1 c2,cs=c1 ++ c2∧TyR w S t c1∧TysR w S ts c2
end
def RowT (w:World) (S:Nat→Prop) (v:Value) (ts:List T):Prop:=∃ xs,Row w S 7 v ts.length xs∧TysR w S ts xs
mutual
theorem TyR.keep {w w':World} {S S':Nat→Prop} (hs:SameOn S w w') (h1:∀ b,S b→S' b):∀ {t:T} {cs:List Value},TyR w S t cs→TyR w' S' t cs
  | .mk k nm n f ns ms ks,cs,h=>by
    simp only [TyR] at h ⊢;obtain ⟨vn,vm,vk,xs,rfl,a,b,c,d⟩:=h;exact ⟨vn,vm,vk,xs,rfl,(a.keep hs).more h1,(b.keep hs).more h1,(c.keep hs).more h1,TysR.keep hs h1 d⟩
theorem TysR.keep {w w':World} {S S':Nat→Prop} (hs:SameOn S w w') (h1:∀ b,S b→S' b):∀ {ts:List T} {cs:List Value},TysR w S ts cs→TysR w' S' ts cs
  | [],cs,h=>by simp only [TysR] at h ⊢;exact h
  | t :: ts,cs,h=>by
    simp only [TysR] at h ⊢;obtain ⟨c1,c2,e,a,b⟩:=h;exact ⟨c1,c2,e,TyR.keep hs h1 a,TysR.keep hs h1 b⟩
end
theorem RowT.keep {w w':World} {S S':Nat→Prop} {v:Value} {ts:List T} (h:RowT w S v ts) (hs:SameOn S w w') (h1:∀ b,S b→S' b):RowT w' S' v ts:=by
  obtain ⟨xs,a,b⟩:=h;exact ⟨xs,(a.keep hs).more h1,b.keep hs h1⟩
theorem TyR.len {w:World} {S:Nat→Prop}:∀ {t:T} {cs:List Value},TyR w S t cs→cs.length=7
  | .mk ..,cs,h=>by simp only [TyR] at h;obtain ⟨_,_,_,_,rfl,_⟩:=h;rfl
theorem TysR.len {w:World} {S:Nat→Prop}:∀ {ts:List T} {cs:List Value},TysR w S ts cs→cs.length=ts.length * 7
  | [],cs,h=>by simp only [TysR] at h;subst h;rfl
  | t :: ts,cs,h=>by
    simp only [TysR] at h;obtain ⟨c1,c2,rfl,a,b⟩:=h;rw [List.length_append,a.len,b.len,List.length_cons];omega
theorem TysR.append {w:World} {S:Nat→Prop}:∀ {ts us:List T} {cs ds:List Value},TysR w S ts cs→TysR w S us ds→TysR w S (ts ++ us) (cs ++ ds)
  | [],us,cs,ds,h,h'=>by simp only [TysR] at h;subst h;simpa using h'
  | t :: ts,us,cs,ds,h,h'=>by
    simp only [TysR,List.cons_append] at h ⊢;obtain ⟨c1,c2,rfl,a,b⟩:=h;exact ⟨c1,c2 ++ ds,by simp,a,b.append h'⟩
theorem TysR.one {w:World} {S:Nat→Prop} {t:T} {cs:List Value} (h:TyR w S t cs):TysR w S [t] cs:=by
  simp only [TysR];exact ⟨cs,[],by simp,h,rfl⟩
theorem TysR.at_ {w:World} {S:Nat→Prop}:∀ {ts:List T} {cs:List Value} (_:TysR w S ts cs) (i:Nat) (h:i<ts.length),
    TyR w S ts[i] ((cs.drop (i * 7)).take 7)
  | t :: ts,cs,h,0,_=>by
    simp only [TysR] at h;obtain ⟨c1,c2,rfl,a,b⟩:=h
    simpa [List.take_append_of_le_length,a.len,List.take_of_length_le] using a
  | t :: ts,cs,h,i+1,hi=>by
    simp only [TysR] at h;obtain ⟨c1,c2,rfl,a,b⟩:=h;have:=b.at_ i (by simpa using hi)
    have e:(c1 ++ c2).drop ((i+1) * 7)=c2.drop (i * 7):=by
      rw [List.drop_append,List.drop_eq_nil_of_le (by rw [a.len];omega),a.len,List.nil_append];congr 1;omega
    rw [e]
    simpa using this
theorem list7:∀ {l:List Value},l.length=7→∃ c0 c1 c2 c3 c4 c5 c6,l=[c0,c1,c2,c3,c4,c5,c6]
  | [c0,c1,c2,c3,c4,c5,c6],_=>⟨c0,c1,c2,c3,c4,c5,c6,rfl⟩
def Cells7 (w:World) (b o:Nat) (c0 c1 c2 c3 c4 c5 c6:Value):Prop:=
  w.cell? ⟨b,o,none⟩=some c0∧w.cell? ⟨b,o+1,none⟩=some c1∧w.cell? ⟨b,o+2,none⟩=some c2∧
       w.cell? ⟨b,o+3,none⟩=some c3∧w.cell? ⟨b,o+4,none⟩=some c4∧w.cell? ⟨b,o+5,none⟩=some c5∧
       w.cell? ⟨b,o+6,none⟩=some c6
theorem TyR.forms {w:World} {S:Nat→Prop} {t:T} {cs:List Value} (h:TyR w S t cs):∃ A1 c1 A2 c2 A3 c3,
    cs=[.int .i64 t.kd,.string t.nm,.int .i64 t.n,.bool t.fl,.slice A1 t.ns.length c1,.slice A2 t.ms.length c2,.slice A3 t.ks.length c3]∧
    Row w S 1 (.slice A1 t.ns.length c1) t.ns.length (t.ns.map .string)∧Row w S 1 (.slice A2 t.ms.length c2) t.ms.length (t.ms.map .bool)∧RowT w S (.slice A3 t.ks.length c3) t.ks:=by
  obtain ⟨k,nm,n,f,ns,ms,ks⟩:=t;simp only [TyR] at h;obtain ⟨vn,vm,vk,xs,rfl,a,b,c,d⟩:=h;obtain ⟨A1,c1,rfl,_⟩:=a.form;obtain ⟨A2,c2,rfl,_⟩:=b.form;obtain ⟨A3,c3,rfl,_⟩:=c.form;exact ⟨A1,c1,A2,c2,A3,c3,rfl,a,b,⟨xs,c,d⟩⟩
theorem TyR.mk {w:World} {S:Nat→Prop} {t:T} {A1 A2 A3:Option Addr} {c1 c2 c3:Nat} (h1:Row w S 1 (.slice A1 t.ns.length c1) t.ns.length (t.ns.map .string))
    (h2:Row w S 1 (.slice A2 t.ms.length c2) t.ms.length (t.ms.map .bool)) (h3:RowT w S (.slice A3 t.ks.length c3) t.ks) :
    TyR w S t [.int .i64 t.kd,.string t.nm,.int .i64 t.n,.bool t.fl,.slice A1 t.ns.length c1,.slice A2 t.ms.length c2,.slice A3 t.ks.length c3]:=by
  obtain ⟨k,nm,n,f,ns,ms,ks⟩:=t;obtain ⟨xs,a,b⟩:=h3;simp only [TyR];exact ⟨_,_,_,xs,rfl,h1,h2,a,b⟩
theorem RowT.at_ {w:World} {S:Nat→Prop} {v:Value} {ts:List T} (h:RowT w S v ts) {i:Nat} (hl:i<ts.length) :
    ∃ b o cap A1 c1 A2 c2 A3 c3,v = .slice (some ⟨b,o,none⟩) ts.length cap∧S b∧
      Cells7 w b (o+i * 7) (.int .i64 ts[i].kd) (.string ts[i].nm) (.int .i64 ts[i].n) (.bool ts[i].fl) (.slice A1 ts[i].ns.length c1) (.slice A2 ts[i].ms.length c2) (.slice A3 ts[i].ks.length c3)∧
      TyR w S ts[i] [.int .i64 ts[i].kd,.string ts[i].nm,.int .i64 ts[i].n,.bool ts[i].fl,.slice A1 ts[i].ns.length c1,.slice A2 ts[i].ms.length c2,.slice A3 ts[i].ks.length c3]:=by
  obtain ⟨xs,⟨h1,A,cap,rfl,h2,h3,h0,h4⟩,ht⟩:=h;obtain ⟨b,o,rfl,hb1,hc⟩:=h4 (by omega);have hr:=ht.at_ i hl;obtain ⟨A1,c1,A2,c2,A3,c3,e,_⟩:=hr.forms;rw [e] at hr
  have hx:∀ j u,[.int .i64 ts[i].kd,.string ts[i].nm,.int .i64 ts[i].n,.bool ts[i].fl,.slice A1 ts[i].ns.length c1,.slice A2 ts[i].ms.length c2,.slice A3 ts[i].ks.length c3][j]? = some u→w.cell? ⟨b,o+i * 7+j,none⟩=some u:=by
    intro j u hj;rw [← e,List.getElem?_take] at hj;split at hj
    · rw [List.getElem?_drop] at hj
      rw [Nat.add_assoc];exact hc _ _ hj
    · cases hj
  exact ⟨b,o,cap,A1,c1,A2,c2,A3,c3,rfl,hb1,⟨hx 0 _ rfl,hx 1 _ rfl,hx 2 _ rfl,hx 3 _ rfl,hx 4 _ rfl,hx 5 _ rfl,hx 6 _ rfl⟩,hr⟩
theorem RowT.form {w:World} {S:Nat→Prop} {v:Value} {ts:List T} (h:RowT w S v ts):∃ A cap,v = .slice A ts.length cap∧ts.length≤9223372036854775807:=by
  obtain ⟨xs,a,_⟩:=h;exact a.form
mutual
def T.sz:T→Nat
  | .mk _ _ _ _ _ _ ks=>T.szL ks+1
def T.szL:List T→Nat
  | []=>0
  | t :: ts=>t.sz+T.szL ts+1
end
theorem szL_mem:∀ {ks:List T} {i:Nat} (h:i<ks.length),ks[i].sz<T.szL ks
  | t :: ts,0,h=>by simp only [T.szL,zl2];omega
  | t :: ts,i+1,h=>by
    have:=szL_mem (ks:=ts) (i:=i) (by simpa using h);simp only [T.szL,zl3];omega
theorem sz_mk {k:Int} {nm:ByteArray} {n:Int} {f:Bool} {ns:List ByteArray} {ms:List Bool} {ks:List T}:(T.mk k nm n f ns ms ks).sz=T.szL ks+1:=by rw [T.sz]
def Lim:Nat:=140737488355328
def i64ok (n:Int):Prop:=-9223372036854775808≤n∧n≤9223372036854775807
mutual
def T.ok:T→Prop
  | .mk k nm n _ ns ms ks=>i64ok k∧i64ok n∧nm.size≤Lim∧(∀ s ∈ ns,s.size≤Lim)∧ns.length * 16≤Lim∧ms.length≤Lim∧ks.length * 112≤Lim∧T.okL ks
def T.okL:List T→Prop
  | []=>True
  | t :: ts=>t.ok∧T.okL ts
end
theorem okL_iff:∀ {ts:List T},T.okL ts↔∀ t ∈ ts,t.ok
  | []=>by simp [T.okL]
  | t :: ts=>by simp [T.okL,okL_iff (ts:=ts)]
theorem okL_at {ts:List T} (h:T.okL ts) {i:Nat} (hi:i<ts.length):ts[i].ok:=okL_iff.1 h _ (List.getElem_mem hi)
def Blk (w:World) (g:Nat) (t:TypeId) (cs:Array Value):Prop:=w.heap[g]? = some (.cells cs t (0,0))
section
variable {w w':World} {g:Nat} {t:TypeId} {cs:Array Value}
theorem Blk.lt (h:Blk w g t cs):g<w.heap.size:=by
  rcases Nat.lt_or_ge g w.heap.size with hlt | hge
  · exact hlt
  · unfold Blk at h;rw [Array.getElem?_eq_none hge] at h;cases h
theorem Blk.cell (h:Blk w g t cs) (i:Nat):w.cell? ⟨g,i,none⟩=cs[i]?:=cell_of_row w g i cs t (0,0) h
theorem Blk.frozen (h:Blk w g t cs) (i:Nat):w.frozen? ⟨g,i,none⟩=false:=by
  unfold Blk at h;simp [World.frozen?,h]
theorem Blk.new (w:World) (t:TypeId) (cs:Array Value):Blk (w.alloc (.cells cs t)) w.heap.size t cs:=heap_alloc_new w _
theorem Blk.drew (h:Blk w g t cs):Blk w.drew g t cs:=h
theorem Blk.drewN (h:Blk w g t cs) (n:Nat):Blk (w.drewN n) g t cs:=h
theorem Blk.alloc (h:Blk w g t cs) (o:Obj):Blk (w.alloc o) g t cs:=(Below.heap_alloc w o g h.lt).trans h
theorem Blk.set_ (h:Blk w g t cs) (i:Nat) (u:Value):Blk (w.setCell ⟨g,i,none⟩ u) g t (cs.setIfInBounds i u):=by
  unfold Blk at h ⊢;simp [World.setCell,Array.getElem?_modify,h]
theorem Blk.far (h:Blk w g t cs) {p:Addr} (hp:g≠p.block) (u:Value):Blk (w.setCell p u) g t cs:=(Below.heap_setCell w p u g hp).trans h
theorem Blk.below {B:Nat} (h:Blk w g t cs) (hb:Below B w w') (hg:g<B):Blk w' g t cs:=(hb.block g hg).trans h
theorem Blk.grown {row:Option Nat} (h:Blk w g t cs) (hb:w.grownBy w' row) (hg:some g≠row):Blk w' g t cs:=(hb.block g h.lt hg).trans h
end
theorem Blk.cells7 {w:World} {g:Nat} {t:TypeId} {c0 c1 c2 c3 c4 c5 c6:Value} (h:Blk w g t #[c0,c1,c2,c3,c4,c5,c6]) :
    w.cell? ⟨g,0,none⟩=some c0∧w.cell? ⟨g,1,none⟩=some c1∧w.cell? ⟨g,2,none⟩=some c2∧w.cell? ⟨g,3,none⟩=some c3∧w.cell? ⟨g,4,none⟩=some c4∧
    w.cell? ⟨g,5,none⟩=some c5∧w.cell? ⟨g,6,none⟩=some c6∧(∀ i,w.frozen? ⟨g,i,none⟩=false):=
  ⟨h.cell 0,h.cell 1,h.cell 2,h.cell 3,h.cell 4,h.cell 5,h.cell 6,h.frozen⟩
theorem SameOn.refl (S:Nat→Prop) (w:World):SameOn S w w:=fun _ _=>rfl
theorem SameOn.set_ {S:Nat→Prop} {a b:World} (h:SameOn S a b) {p:Addr} (hp:¬ S p.block) (u:Value):SameOn S a (b.setCell p u):=
  fun k hk=>(Below.heap_setCell b p u k (fun e=>hp (e ▸ hk))).trans (h k hk)
theorem SameOn.alloc {S:Nat→Prop} {a b:World} (h:SameOn S a b) (hS:Old S b) (o:Obj):SameOn S a (b.alloc o):=
  fun k hk=>(Below.heap_alloc b o k (hS k hk)).trans (h k hk)
theorem own_form {w:World} {base:Nat} {e:TypeId} {size n:Nat} {v:Value} {xs:List Value} (h:w.ownsRow base e size v n xs):∃ A c,v = .slice A n c:=by
  rcases h.2 with ⟨rfl,rfl⟩ | ⟨g,cap,cur,rfl,_⟩
  · exact ⟨_,_,rfl⟩
  · exact ⟨_,_,rfl⟩
theorem own_below {w w':World} {base:Nat} {e:TypeId} {size n:Nat} {v:Value} {xs:List Value} (h:w.ownsRow base e size v n xs) (hb:Below w.heap.size w w'):w'.ownsRow base e size v n xs:=
  h.kept (grown_of_below hb none) (by cases h':v.ownBlock <;> simp)
theorem one_strs (l:List ByteArray):∀ u ∈ l.map Value.string,u.oneCell'=true:=by
  intro u h;obtain ⟨s,_,rfl⟩:=List.mem_map.1 h;rfl
theorem one_bools (l:List Bool):∀ u ∈ l.map Value.bool,u.oneCell'=true:=by
  intro u h;obtain ⟨s,_,rfl⟩:=List.mem_map.1 h;rfl
def TRes (w:World) (t:T) (e:Ending) (w':World):Prop:=∃ cs:List Value,e = .returned (.agg cs.toArray)∧TyR w' (New w w') t cs∧Below w.heap.size w w'
def TsRes (E:TypeId) (w:World) (ts:List T) (e:Ending) (w':World):Prop:=
  ∃ v xs,e = .returned v∧w'.ownsRow w.heap.size E 7 v ts.length xs∧TysR w' (fun b=>New w w' b∧v.ownBlock≠some b) ts xs∧Below w.heap.size w w'
theorem zr {S : Nat → Prop} {w : World} : SameOn S w w := SameOn.refl _ _
structure Tk where
  k:Int
  fr:Int
  to:Int
  tx:ByteArray
inductive No where
  | mk (k fr to:Int) (tx:ByteArray) (ks:List No)
def No.k:No→Int | .mk k _ _ _ _=>k
def No.fr:No→Int | .mk _ fr _ _ _=>fr
def No.to:No→Int | .mk _ _ to _ _=>to
def No.tx:No→ByteArray | .mk _ _ _ tx _=>tx
def No.ks:No→List No | .mk _ _ _ _ ks=>ks
def noneN:No:=.mk 7 0 0 ⟨#[]⟩ []
abbrev Ps:=Nat×Bool
abbrev PR (α:Type):=Option (Except Int (α×Ps))
def PM (α:Type):=Ps→PR α
instance:Monad PM where
  pure a:=fun s=>some (.ok (a,s))
  bind x f:=fun s=>match x s with
    | none=>none
    | some (.error p)=>some (.error p)
    | some (.ok (a,s'))=>f a s'
def oneTx (t:Tk) (l:List ByteArray):Bool:=l.any fun x=>decide (t.tx=x)
def oneOf (t:Tk) (l:List ByteArray):Bool:=(decide (t.k=5) || decide (t.k=4)) && oneTx t l
def rankT (t:Tk):Nat:=
  if t.k≠5 then 0 else if oneTx t [⟨#[124,124]⟩] then 1 else if oneTx t [⟨#[38,38]⟩] then 2
  else if oneTx t [⟨#[61,61]⟩,⟨#[33,61]⟩,⟨#[60]⟩,⟨#[60,61]⟩,⟨#[62]⟩,⟨#[62,61]⟩] then 3 else if oneTx t [⟨#[43]⟩,⟨#[45]⟩] then 4 else if oneTx t [⟨#[42]⟩,⟨#[47]⟩,⟨#[37]⟩] then 5 else 0
def beginsT (t:Tk):Bool:=(decide (t.k=1) || decide (t.k=2) || decide (t.k=3)) || oneOf t [⟨#[45]⟩,⟨#[33]⟩,⟨#[38]⟩,⟨#[42]⟩,⟨#[60,45]⟩,⟨#[40]⟩,⟨#[102,117,110,99]⟩,⟨#[91]⟩]
def typedT (t:Tk):Bool:=decide (t.k=1) || oneOf t [⟨#[42]⟩,⟨#[91]⟩,⟨#[99,104,97,110]⟩,⟨#[102,117,110,99]⟩,⟨#[115,116,114,117,99,116]⟩,⟨#[105,110,116,101,114,102,97,99,101]⟩,⟨#[40]⟩]
section
variable (ts:List Tk)
def tokAt (i:Nat):Tk:=ts.getD i ⟨7,0,0,⟨#[]⟩⟩
def nowP:PM Tk:=fun s=>some (.ok (tokAt ts s.1,s))
def aheadP (n:Nat):PM Tk:=fun s=>some (.ok (tokAt ts (min (s.1+n) (ts.length - 1)),s))
def badP {α:Type}:PM α:=fun s=>some (.error (tokAt ts s.1).fr)
def isP (l:List ByteArray):PM Bool:=fun s=>some (.ok (oneOf (tokAt ts s.1) l,s))
def stepP:PM Unit:=fun s=>some (.ok ((),(s.1+1,s.2)))
def backP:PM Unit:=fun s=>some (.ok ((),(s.1 - 1,s.2)))
def bareP:PM Bool:=fun s=>some (.ok (s.2,s))
def nextP:PM Tk:=fun s=>some (.ok (tokAt ts s.1,(s.1+1,s.2)))
def takeP (l:List ByteArray):PM Bool:=fun s=>if oneOf (tokAt ts s.1) l=true then some (.ok (true,(s.1+1,s.2))) else some (.ok (false,s))
def needP (x:ByteArray):PM Tk:=fun s=>if oneOf (tokAt ts s.1) [x]=true then some (.ok (tokAt ts s.1,(s.1+1,s.2))) else some (.error (tokAt ts s.1).fr)
def semiP:PM Unit:=fun s=>if (tokAt ts s.1).k=6 then some (.ok ((),(s.1+1,s.2))) else some (.error (tokAt ts s.1).fr)
def nameP:PM No:=fun s=>if (tokAt ts s.1).k=1 then some (.ok (.mk 40 (tokAt ts s.1).fr (tokAt ts s.1).to (tokAt ts s.1).tx [],(s.1+1,s.2))) else some (.error (tokAt ts s.1).fr)
def fromP:PM Int:=fun s=>some (.ok ((tokAt ts s.1).fr,s))
def toP:PM Int:=fun s=>some (.ok ((tokAt ts (s.1 - 1)).to,s))
def madeP (k fr:Int) (tx:ByteArray) (ks:List No):PM No:=fun s=>some (.ok (.mk k fr (tokAt ts (s.1 - 1)).to tx ks,s))
def emptyP (k:Int):PM No:=fun s=>some (.ok (.mk k (tokAt ts s.1).fr (tokAt ts s.1).fr ⟨#[]⟩ [],s))
def flagP {α:Type} (q:Bool) (x:PM α):PM α:=fun s=>match x (s.1,q) with
  | none=>none
  | some (.error p)=>some (.error p)
  | some (.ok (a,s'))=>some (.ok (a,(s'.1,s.2)))
def listP {σ:Type} (closing:ByteArray) (least:Nat) (one:σ→PM (No×σ)):Nat→σ→List No→PM (List No×σ)
  | 0,_,_=>fun _=>none
  | f+1,u,out=>do
    let q ← isP ts [closing]
    if q=true∧¬ out.length<least then pure (out,u)
    else do
      let x ← one u
      let c ← takeP ts [⟨#[44]⟩]
      if c=true then listP closing least one f x.2 (out ++ [x.1]) else pure (out ++ [x.1],x.2)
def rowP (ends:Tk→Bool) (one:PM (No×Bool)):Nat→List No→PM (List No)
  | 0,_=>fun _=>none
  | f+1,out=>do
    let t ← nowP ts
    if ends t=true then pure out
    else do
      let x ← one
      let t' ← nowP ts
      if ends t'=true then pure (if x.2=true then out ++ [x.1] else out)
      else do
        semiP ts
        rowP ends one f (if x.2=true then out ++ [x.1] else out)
def bracedP (one:PM (No×Bool)):PM (List No):=do
  let _ ← needP ts ⟨#[123]⟩
  let l ← rowP ts (fun t=>oneOf t [⟨#[125]⟩]) one (ts.length+1) []
  let _ ← needP ts ⟨#[125]⟩
  pure l
structure Gr where
  typ:PM No
  expr:PM No
  unary:PM No
  binary:No→Nat→PM No
  suffixes:No→PM No
  stmt:PM (No×Bool)
  branch:PM No
variable (G:Gr)
/-! ### types -/
def typeNameP:PM No:=do
  let n ← nameP ts
  let q ← takeP ts [⟨#[46]⟩]
  if q=true then do
    let m ← nameP ts
    madeP ts 41 n.fr ⟨#[]⟩ [n,m]
  else pure n
def dotsT (d:Bool):ByteArray:=if d=true then ⟨#[46,46,46]⟩ else ⟨#[]⟩
def paramOne (any:Bool):PM (No×Bool):=do
  if any=true then badP ts
  else do
    let at_ ← fromP ts
    let n ← nameP ts
    let d ← takeP ts [⟨#[46,46,46]⟩]
    let t ← G.typ
    let x ← madeP ts 11 at_ (dotsT d) [n,t]
    pure (x,d)
def paramsP:PM No:=do
  let t ← needP ts ⟨#[40]⟩
  let l ← listP ts ⟨#[41]⟩ 0 (paramOne ts G) (ts.length+1) false []
  let _ ← needP ts ⟨#[41]⟩
  madeP ts 10 t.fr ⟨#[]⟩ l.1
def plain (x:PM No) (u:Unit):PM (No×Unit):=do
  let a ← x
  pure (a,u)
def resultsP:PM No:=do
  let q ← isP ts [⟨#[40]⟩]
  if q=true then do
    let t ← nextP ts
    let l ← listP ts ⟨#[41]⟩ 1 (plain G.typ) (ts.length+1) () []
    let _ ← needP ts ⟨#[41]⟩
    madeP ts 12 t.fr ⟨#[]⟩ l.1
  else do
    let t ← nowP ts
    if typedT t=true then do
      let x ← G.typ
      madeP ts 12 t.fr ⟨#[]⟩ [x]
    else emptyP ts 12
def typesN (n:No) (ks:List No):No:=.mk n.k n.fr ((ks.getLast?.map No.to).getD n.to) n.tx ks
def typesP {σ:Type} (one:σ→PM (No×σ)) (u:σ):PM (No×σ):=do
  let n ← emptyP ts 27
  let l ← listP ts ⟨#[41]⟩ 0 one (ts.length+1) u []
  pure (typesN n l.1,l.2)
def funcOne (d:Bool):PM (No×Bool):=do
  if d=true then badP ts
  else do
    let q ← takeP ts [⟨#[46,46,46]⟩]
    let x ← G.typ
    pure (x,q)
def funcTypeP (fr:Int):PM No:=do
  let _ ← needP ts ⟨#[40]⟩
  let l ← typesP ts (funcOne ts G) false
  let _ ← needP ts ⟨#[41]⟩
  let r ← resultsP ts G
  madeP ts 24 fr (dotsT l.2) [l.1,r]
def fieldP:PM (No×Bool):=do
  let fr ← fromP ts
  let n ← nameP ts
  let t ← nowP ts
  if oneOf t [⟨#[46]⟩]=true then do
    backP
    let x ← typeNameP ts
    let y ← madeP ts 29 fr ⟨#[]⟩ [x]
    pure (y,true)
  else if oneOf t [⟨#[125]⟩]=true∨t.k=6 then do
    let y ← madeP ts 29 fr ⟨#[]⟩ [n]
    pure (y,true)
  else do
    let x ← G.typ
    let y ← madeP ts 28 fr ⟨#[]⟩ [n,x]
    pure (y,true)
def elementP:PM (No×Bool):=do
  let fr ← fromP ts
  let n ← nameP ts
  let q ← isP ts [⟨#[40]⟩]
  if q=true then do
    let _ ← nextP ts
    let l ← typesP ts (plain G.typ) ()
    let _ ← needP ts ⟨#[41]⟩
    let r ← resultsP ts G
    let y ← madeP ts 30 fr ⟨#[]⟩ [n,l.1,r]
    pure (y,true)
  else do
    backP
    let x ← typeNameP ts
    let y ← madeP ts 29 fr ⟨#[]⟩ [x]
    pure (y,true)
def typ6P (fr:Int):PM No:=do
  let q ← takeP ts [⟨#[105,110,116,101,114,102,97,99,101]⟩]
  if q=true then do
    let l ← bracedP ts (elementP ts G)
    madeP ts 26 fr ⟨#[]⟩ l
  else do
  let q ← takeP ts [⟨#[40]⟩]
  if q=true then do
    let t ← G.typ
    let _ ← needP ts ⟨#[41]⟩
    madeP ts 44 fr ⟨#[]⟩ [t]
  else badP ts
def typP:PM No:=do
  let t ← nowP ts
  if t.k=1 then typeNameP ts
  else do
  let q ← takeP ts [⟨#[42]⟩]
  if q=true then do
    let x ← G.typ
    madeP ts 21 t.fr ⟨#[]⟩ [x]
  else do
  let q ← takeP ts [⟨#[91]⟩]
  if q=true then do
    let _ ← needP ts ⟨#[93]⟩
    let x ← G.typ
    madeP ts 22 t.fr ⟨#[]⟩ [x]
  else do
  let q ← takeP ts [⟨#[99,104,97,110]⟩]
  if q=true then do
    let x ← G.typ
    madeP ts 23 t.fr ⟨#[]⟩ [x]
  else do
  let q ← takeP ts [⟨#[102,117,110,99]⟩]
  if q=true then funcTypeP ts G t.fr
  else do
  let q ← takeP ts [⟨#[115,116,114,117,99,116]⟩]
  if q=true then do
    let l ← bracedP ts (fieldP ts G)
    madeP ts 25 t.fr ⟨#[]⟩ l
  else typ6P ts G t.fr
/-! ### expressions -/
def compOne (u:Unit):PM (No×Unit):=do
  let t ← nowP ts
  let t1 ← aheadP ts 1
  if t.k=1∧oneOf t1 [⟨#[58]⟩]=true then do
    let n ← nameP ts
    let _ ← needP ts ⟨#[58]⟩
    let x ← G.expr
    let y ← madeP ts 47 n.fr ⟨#[]⟩ [n,x]
    pure (y,u)
  else do
    let x ← G.expr
    pure (x,u)
def compositeP (fr:Int) (t:No):PM No:=do
  let _ ← needP ts ⟨#[123]⟩
  let l ← flagP false (listP ts ⟨#[125]⟩ 0 (compOne ts G) (ts.length+1) () [])
  let _ ← needP ts ⟨#[125]⟩
  madeP ts 46 fr ⟨#[]⟩ (t :: l.1)
def opNameP:PM No:=do
  let n ← nameP ts
  let b ← bareP
  if b=true then pure n
  else do
  let q ← isP ts [⟨#[123]⟩]
  if q=true then compositeP ts G n.fr n
  else do
  let q ← isP ts [⟨#[46]⟩]
  let t1 ← aheadP ts 1
  let t2 ← aheadP ts 2
  if q=true∧t1.k=1∧oneOf t2 [⟨#[123]⟩]=true then do
    backP
    let t ← typeNameP ts
    compositeP ts G n.fr t
  else pure n
def blockP:PM No:=do
  let fr ← fromP ts
  let l ← flagP false (bracedP ts G.stmt)
  madeP ts 60 fr ⟨#[]⟩ l
def argP:PM No:=do
  let q ← isP ts [⟨#[91]⟩,⟨#[99,104,97,110]⟩,⟨#[115,116,114,117,99,116]⟩,⟨#[105,110,116,101,114,102,97,99,101]⟩]
  if q=true then do
    let fr ← fromP ts
    let sl ← isP ts [⟨#[91]⟩]
    let t ← G.typ
    let q ← isP ts [⟨#[123]⟩]
    if sl=true∧q=true then do
      let x ← compositeP ts G fr t
      let y ← G.suffixes x
      G.binary y 1
    else pure t
  else G.expr
def operandP:PM No:=do
  let t ← nowP ts
  if t.k=2 then do
    stepP
    madeP ts 42 t.fr t.tx []
  else if t.k=3 then do
    stepP
    madeP ts 43 t.fr t.tx []
  else if t.k=1 then opNameP ts G
  else do
  let q ← takeP ts [⟨#[40]⟩]
  if q=true then do
    let x ← flagP false G.expr
    let _ ← needP ts ⟨#[41]⟩
    madeP ts 44 t.fr ⟨#[]⟩ [x]
  else do
  let q ← takeP ts [⟨#[102,117,110,99]⟩]
  if q=true then do
    let a ← paramsP ts G
    let r ← resultsP ts G
    let b ← blockP ts G
    madeP ts 45 t.fr ⟨#[]⟩ [a,r,b]
  else do
  let q ← isP ts [⟨#[91]⟩]
  if q=true then do
    let x ← typP ts G
    compositeP ts G t.fr x
  else badP ts
def callOne (d:Bool):PM (No×Bool):=do
  if d=true then badP ts
  else do
    let x ← argP ts G
    let q ← takeP ts [⟨#[46,46,46]⟩]
    pure (x,q)
def callP (x:No):PM No:=do
  let l ← flagP false (listP ts ⟨#[41]⟩ 0 (callOne ts G) (ts.length+1) false [])
  let _ ← needP ts ⟨#[41]⟩
  madeP ts 48 x.fr (dotsT l.2) (x :: l.1)
def suffixP (x:No):PM (No×Bool):=do
  let q ← takeP ts [⟨#[46]⟩]
  if q=true then do
    let q ← takeP ts [⟨#[40]⟩]
    if q=true then do
      let t ← G.typ
      let _ ← needP ts ⟨#[41]⟩
      let y ← madeP ts 50 x.fr ⟨#[]⟩ [x,t]
      pure (y,true)
    else do
      let m ← nameP ts
      let y ← madeP ts 41 x.fr ⟨#[]⟩ [x,m]
      pure (y,true)
  else do
  let q ← takeP ts [⟨#[91]⟩]
  if q=true then do
    let l ← flagP false (listP ts ⟨#[93]⟩ 1 (plain (argP ts G)) (ts.length+1) () [])
    let _ ← needP ts ⟨#[93]⟩
    let y ← madeP ts 49 x.fr ⟨#[]⟩ (x :: l.1)
    pure (y,true)
  else do
  let q ← takeP ts [⟨#[40]⟩]
  if q=true then do
    let y ← callP ts G x
    pure (y,true)
  else pure (x,false)
def suffixesL:Nat→No→PM No
  | 0,_=>fun _=>none
  | f+1,x=>do
    let y ← suffixP ts G x
    if y.2=true then suffixesL f y.1 else pure y.1
def suffixesP (x:No):PM No:=suffixesL ts G (ts.length+1) x
def primaryP:PM No:=do
  let x ← operandP ts G
  suffixesP ts G x
def unaryP:PM No:=do
  let t ← nowP ts
  let q ← takeP ts [⟨#[45]⟩,⟨#[33]⟩,⟨#[38]⟩,⟨#[42]⟩,⟨#[60,45]⟩]
  if q=true then do
    let x ← G.unary
    madeP ts 51 t.fr t.tx [x]
  else primaryP ts G
def riseP (r:Nat):Nat→No→PM No
  | 0,_=>fun _=>none
  | f+1,y=>do
    let t ← nowP ts
    if r<rankT t then do
      let z ← G.binary y (r+1)
      riseP r f z
    else pure y
def binaryL (least:Nat):Nat→No→PM No
  | 0,_=>fun _=>none
  | f+1,x=>do
    let t ← nowP ts
    if rankT t<least then pure x
    else do
      stepP
      let y ← G.unary
      let z ← riseP ts G (rankT t) (ts.length+1) y
      let n ← madeP ts 52 x.fr t.tx [x,z]
      binaryL least f n
def binaryP (x:No) (least:Nat):PM No:=binaryL ts G least (ts.length+1) x
def exprP:PM No:=do
  let x ← unaryP ts G
  binaryP ts G x 1
/-! ### statements -/
def variableP:PM No:=do
  let t ← nextP ts
  let n ← nameP ts
  let q ← isP ts [⟨#[61]⟩]
  let ty ← (if q=true then pure noneN else typP ts G)
  let q ← takeP ts [⟨#[61]⟩]
  let x ← (if q=true then exprP ts G else pure noneN)
  madeP ts 4 t.fr ⟨#[]⟩ [n,ty,x]
def constantP:PM No:=do
  let t ← nextP ts
  let n ← nameP ts
  let q ← isP ts [⟨#[61]⟩]
  let ty ← (if q=true then pure noneN else typP ts G)
  let _ ← needP ts ⟨#[61]⟩
  let x ← exprP ts G
  madeP ts 5 t.fr ⟨#[]⟩ [n,ty,x]
def calledP (k fr:Int):PM No:=do
  let n ← primaryP ts G
  if n.k=48 then madeP ts k fr ⟨#[]⟩ [n] else badP ts
def moreL:Nat→List No→PM (List No)
  | 0,_=>fun _=>none
  | f+1,l=>do
    let q ← takeP ts [⟨#[44]⟩]
    if q=true then do
      let x ← exprP ts G
      moreL f (l ++ [x])
    else pure l
def exprsP:PM (List No):=do
  let x ← exprP ts G
  moreL ts G (ts.length+1) [x]
def severalN (l:List No):No:=.mk 65 ((l.head?.map No.fr).getD 0) ((l.getLast?.map No.to).getD 0) ⟨#[]⟩ l
def namesB (l:List No):Bool:=l.all fun n=>decide (n.k=40)
def simpleOrP {σ:Type} (or_:List No→PM (Option σ)):PM (No ⊕ σ):=do
  let fr ← fromP ts
  let l ← exprsP ts G
  let t ← nowP ts
  if l.length=1∧oneOf t [⟨#[60,45]⟩]=true then do
    stepP
    let x ← exprP ts G
    let y ← madeP ts 62 fr ⟨#[]⟩ [l.headD noneN,x]
    pure (.inl y)
  else if oneOf t [⟨#[61]⟩]=true then do
    stepP
    let x ← exprP ts G
    let r ← moreL ts G (ts.length+1) [x]
    let y ← madeP ts 63 fr t.tx [severalN l,severalN r]
    pure (.inl y)
  else if l.length=1∧oneOf t [⟨#[43,61]⟩,⟨#[45,61]⟩,⟨#[42,61]⟩,⟨#[47,61]⟩,⟨#[37,61]⟩]=true then do
    stepP
    let x ← exprP ts G
    let y ← madeP ts 63 fr t.tx [severalN l,severalN [x]]
    pure (.inl y)
  else if l.length=1∧oneOf t [⟨#[43,43]⟩,⟨#[45,45]⟩]=true then do
    stepP
    let y ← madeP ts 66 fr t.tx [l.headD noneN]
    pure (.inl y)
  else if namesB l=true∧oneOf t [⟨#[58,61]⟩]=true then do
    stepP
    let o ← or_ l
    match o with
    | some u=>pure (.inr u)
    | none=>do
      let r ← exprsP ts G
      let y ← madeP ts 64 fr ⟨#[]⟩ [severalN l,severalN r]
      pure (.inl y)
  else if l.length=1 then do
    let y ← madeP ts 61 fr ⟨#[]⟩ [l.headD noneN]
    pure (.inl y)
  else badP ts
def inlN:No ⊕ Empty→No
  | .inl n=>n
  | .inr u=>nomatch u
def simpleP:PM No:=do
  let x ← simpleOrP ts G (σ:=Empty) (fun _=>pure none)
  pure (inlN x)
def ifHeadP:PM (No×No):=do
  let n ← simpleP ts G
  let t ← nowP ts
  if t.k=6 then do
    stepP
    let c ← exprP ts G
    pure (n,c)
  else if n.k=61 then pure (noneN,n.ks.headD noneN)
  else badP ts
def branchP:PM No:=do
  let t ← nextP ts
  let h ← flagP true (ifHeadP ts G)
  let b ← blockP ts G
  let q ← takeP ts [⟨#[101,108,115,101]⟩]
  if q=true then do
    let t1 ← nowP ts
    if oneOf t1 [⟨#[105,102]⟩]=true then do
      let o ← G.branch
      madeP ts 72 t.fr ⟨#[]⟩ [h.1,h.2,b,o]
    else if oneOf t1 [⟨#[123]⟩]=true then do
      let o ← blockP ts G
      madeP ts 72 t.fr ⟨#[]⟩ [h.1,h.2,b,o]
    else badP ts
  else madeP ts 72 t.fr ⟨#[]⟩ [h.1,h.2,b,noneN]
def rangedP (l:List No):PM (List No):=do
  let _ ← needP ts ⟨#[114,97,110,103,101]⟩
  let x ← exprP ts G
  pure [l.getD 0 noneN,l.getD 1 noneN,x]
def forOr (l:List No):PM (Option (List No)):=do
  let q ← isP ts [⟨#[114,97,110,103,101]⟩]
  if l.length≤2∧q=true then do
    let r ← rangedP ts G l
    pure (some r)
  else pure none
def forTailP (first:No):PM ((No×No×No) ⊕ List No):=do
  semiP ts
  let t ← nowP ts
  let c ← (if t.k=6 then pure noneN else exprP ts G)
  semiP ts
  let q ← isP ts [⟨#[123]⟩]
  let l ← (if q=true then pure noneN else simpleP ts G)
  pure (.inl (first,c,l))
def forHeadP:PM ((No×No×No) ⊕ List No):=do
  let t ← nowP ts
  if oneOf t [⟨#[123]⟩]=true then pure (.inl (noneN,noneN,noneN))
  else if oneOf t [⟨#[114,97,110,103,101]⟩]=true then do
    let r ← rangedP ts G []
    pure (.inr r)
  else if t.k=6 then forTailP ts G noneN
  else do
    let x ← simpleOrP ts G (forOr ts G)
    match x with
    | .inr r=>pure (.inr r)
    | .inl n=>do
      let t ← nowP ts
      if t.k=6 then forTailP ts G n
      else if n.k=61 then pure (.inl (noneN,n.ks.headD noneN,noneN))
      else badP ts
def loopP (fr:Int):PM No:=do
  let h ← flagP true (forHeadP ts G)
  let b ← blockP ts G
  match h with
  | .inr r=>madeP ts 74 fr ⟨#[]⟩ (r ++ [b])
  | .inl x=>madeP ts 73 fr ⟨#[]⟩ [x.1,x.2.1,x.2.2,b]
def caseEnd (t:Tk):Bool:=oneOf t [⟨#[125]⟩,⟨#[99,97,115,101]⟩,⟨#[100,101,102,97,117,108,116]⟩]
def lastTo (to:Int) (l:List No):Int:=(l.getLast?.map No.to).getD to
def caseOneP (k:Int) (head:PM No):PM No:=do
  let fr ← fromP ts
  let q ← takeP ts [⟨#[100,101,102,97,117,108,116]⟩]
  let h ← (if q=true then pure noneN else do
    let _ ← needP ts ⟨#[99,97,115,101]⟩
    head)
  let c ← needP ts ⟨#[58]⟩
  let l ← rowP ts caseEnd G.stmt (ts.length+1) []
  pure (.mk k fr (lastTo c.to l) ⟨#[]⟩ (h :: l))
def casesL (k:Int) (head:PM No):Nat→List No→PM (List No)
  | 0,_=>fun _=>none
  | f+1,out=>do
    let q ← isP ts [⟨#[125]⟩]
    if q=true then pure out
    else do
      let x ← caseOneP ts G k head
      casesL k head f (out ++ [x])
def casesP (k:Int) (head:PM No):PM (List No):=do
  let _ ← needP ts ⟨#[123]⟩
  let l ← flagP false (casesL ts G k head (ts.length+1) [])
  let _ ← needP ts ⟨#[125]⟩
  pure l
def severalP:PM No:=do
  let l ← exprsP ts G
  pure (severalN l)
def choiceP (fr:Int):PM No:=do
  let x ← flagP true (exprP ts G)
  let l ← casesP ts G 76 (severalP ts G)
  madeP ts 75 fr ⟨#[]⟩ (x :: l)
def commP:PM No:=do
  let fr ← fromP ts
  let t ← nowP ts
  let t1 ← aheadP ts 1
  if t.k=1∧oneOf t1 [⟨#[44]⟩,⟨#[58,61]⟩]=true then do
    let n ← nameP ts
    let q ← takeP ts [⟨#[44]⟩]
    let m ← (if q=true then nameP ts else pure noneN)
    let _ ← needP ts ⟨#[58,61]⟩
    let _ ← needP ts ⟨#[60,45]⟩
    let x ← unaryP ts G
    madeP ts 79 fr ⟨#[]⟩ [n,m,x]
  else do
    let x ← exprP ts G
    let q ← takeP ts [⟨#[60,45]⟩]
    if q=true then do
      let y ← exprP ts G
      madeP ts 62 fr ⟨#[]⟩ [x,y]
    else if x.k=51∧x.tx=⟨#[60,45]⟩ then madeP ts 79 fr ⟨#[]⟩ [noneN,noneN,x.ks.headD noneN]
    else badP ts
def commsP (fr:Int):PM No:=do
  let l ← casesP ts G 78 (commP ts G)
  madeP ts 77 fr ⟨#[]⟩ l
def okN (x:PM No):PM (No×Bool):=do
  let n ← x
  pure (n,true)
def stmt2P (fr:Int):PM (No×Bool):=do
  let q ← takeP ts [⟨#[98,114,101,97,107]⟩]
  if q=true then okN (madeP ts 70 fr ⟨#[]⟩ [])
  else do
  let q ← takeP ts [⟨#[99,111,110,116,105,110,117,101]⟩]
  if q=true then okN (madeP ts 71 fr ⟨#[]⟩ [])
  else do
  let q ← isP ts [⟨#[105,102]⟩]
  if q=true then okN (branchP ts G)
  else do
  let q ← takeP ts [⟨#[102,111,114]⟩]
  if q=true then okN (loopP ts G fr)
  else do
  let q ← takeP ts [⟨#[115,119,105,116,99,104]⟩]
  if q=true then okN (choiceP ts G fr)
  else do
  let q ← takeP ts [⟨#[115,101,108,101,99,116]⟩]
  if q=true then okN (commsP ts G fr)
  else okN (simpleP ts G)
def stmtP:PM (No×Bool):=do
  let t ← nowP ts
  if oneOf t [⟨#[125]⟩,⟨#[99,97,115,101]⟩,⟨#[100,101,102,97,117,108,116]⟩]=true∨t.k=6 then pure (noneN,false)
  else if oneOf t [⟨#[118,97,114]⟩]=true then okN (variableP ts G)
  else if oneOf t [⟨#[99,111,110,115,116]⟩]=true then okN (constantP ts G)
  else if oneOf t [⟨#[123]⟩]=true then okN (blockP ts G)
  else do
  let q ← takeP ts [⟨#[103,111]⟩]
  if q=true then okN (calledP ts G 67 t.fr)
  else do
  let q ← takeP ts [⟨#[100,101,102,101,114]⟩]
  if q=true then okN (calledP ts G 68 t.fr)
  else do
  let q ← takeP ts [⟨#[114,101,116,117,114,110]⟩]
  if q=true then do
    let t1 ← nowP ts
    let l ← (if beginsT t1=true then exprsP ts G else pure [])
    okN (madeP ts 69 t.fr ⟨#[]⟩ l)
  else stmt2P ts G t.fr
/-! ### all of them -/
def stepG:Gr:=⟨typP ts G,exprP ts G,unaryP ts G,binaryP ts G,suffixesP ts G,stmtP ts G,branchP ts G⟩
end
def noG:Gr:=⟨fun _=>none,fun _=>none,fun _=>none,fun _ _ _=>none,fun _ _=>none,fun _=>none,fun _=>none⟩
def gr (ts:List Tk):Nat→Gr
  | 0=>noG
  | n+1=>stepG ts (gr ts n)
section
variable (ts:List Tk) (G:Gr)
/-! ### files -/
def orL:Nat→List No→PM (List No)
  | 0,_=>fun _=>none
  | f+1,l=>do
    let q ← takeP ts [⟨#[124]⟩]
    if q=true then do
      let x ← typP ts G
      orL f (l ++ [x])
    else pure l
def typeParamP:PM No:=do
  let fr ← fromP ts
  let n ← nameP ts
  let at_ ← fromP ts
  let x ← typP ts G
  let l ← orL ts G (ts.length+1) [x]
  let c ← (if 1<l.length then madeP ts 14 at_ ⟨#[]⟩ l else pure (l.headD noneN))
  madeP ts 13 fr ⟨#[]⟩ [n,c]
def recvP:PM No:=do
  let t ← nextP ts
  let n ← nameP ts
  let star ← fromP ts
  let q ← takeP ts [⟨#[42]⟩]
  let ty ← nameP ts
  let ty2 ← (if q=true then madeP ts 21 star ⟨#[]⟩ [ty] else pure ty)
  let _ ← needP ts ⟨#[41]⟩
  madeP ts 8 t.fr ⟨#[]⟩ [n,ty2]
def tparamsP:PM No:=do
  let t ← nextP ts
  let l ← listP ts ⟨#[93]⟩ 1 (plain (typeParamP ts G)) (ts.length+1) () []
  let _ ← needP ts ⟨#[93]⟩
  madeP ts 9 t.fr ⟨#[]⟩ l.1
def functionP:PM No:=do
  let t ← nextP ts
  let q ← isP ts [⟨#[40]⟩]
  let recv ← (if q=true then recvP ts else pure noneN)
  let n ← nameP ts
  let q ← isP ts [⟨#[91]⟩]
  let tp ← (if recv.k=7∧q=true then tparamsP ts G else pure noneN)
  let a ← paramsP ts G
  let r ← resultsP ts G
  let b ← blockP ts G
  madeP ts 3 t.fr ⟨#[]⟩ [recv,n,tp,a,r,b]
def declP:PM No:=do
  let t ← nowP ts
  if oneOf t [⟨#[102,117,110,99]⟩]=true then functionP ts G
  else if oneOf t [⟨#[118,97,114]⟩]=true then variableP ts G
  else if oneOf t [⟨#[99,111,110,115,116]⟩]=true then constantP ts G
  else if oneOf t [⟨#[116,121,112,101]⟩]=true then do
    stepP
    let n ← nameP ts
    let x ← typP ts G
    madeP ts 6 t.fr ⟨#[]⟩ [n,x]
  else badP ts
def importsL:Nat→List No→Int→PM (List No×Int)
  | 0,_,_=>fun _=>none
  | f+1,l,to=>do
    let q ← isP ts [⟨#[105,109,112,111,114,116]⟩]
    if q=true then do
      let t ← nextP ts
      let s ← nowP ts
      if s.k=3 then do
        stepP
        let x ← madeP ts 2 t.fr s.tx []
        let to' ← toP ts
        semiP ts
        importsL f (l ++ [x]) to'
      else badP ts
    else pure (l,to)
def declsL:Nat→List No→Int→PM (List No×Int)
  | 0,_,_=>fun _=>none
  | f+1,l,to=>do
    let t ← nowP ts
    if t.k=7 then pure (l,to)
    else do
      let x ← declP ts G
      let to' ← toP ts
      semiP ts
      declsL f (l ++ [x]) to'
def fileP:PM No:=do
  let t ← needP ts ⟨#[112,97,99,107,97,103,101]⟩
  let n ← nameP ts
  let to ← toP ts
  semiP ts
  let a ← importsL ts (ts.length+1) [n] to
  let b ← declsL ts G (ts.length+1) a.1 a.2
  pure (.mk 1 t.fr b.2 ⟨#[]⟩ b.1)
def aloneP (x:PM No):PM No:=do
  let n ← x
  let t ← nowP ts
  if t.k=6 then do
    stepP
    let t ← nowP ts
    if t.k=7 then pure n else badP ts
  else if t.k=7 then pure n else badP ts
end
structure WT (ts:List Tk):Prop where
  nxt:∀ i,i<ts.length→(tokAt ts i).k≠7→i+1<ts.length
def FineQ (ζ:Prop) (ts:List Tk) {α:Type} (m:Nat) (x:PM α) (i:Nat) (b:Bool):Prop:=
  (ζ→∃ r,x (i,b)=some r)∧∀ a s',x (i,b)=some (.ok (a,s'))→m≤s'.1∧s'.1<ts.length∧s'.2=b
section
variable {ζ:Prop} {ts:List Tk} {α β:Type} {m m' i:Nat} {b:Bool} {l:List ByteArray}
theorem bind_def (x:PM α) (f:α→PM β) (s:Ps):(x >>= f) s=match x s with
    | none=>none
    | some (.error p)=>some (.error p)
    | some (.ok (a,s'))=>f a s':=rfl
theorem FineQ.less {x:PM α} (h:FineQ ζ ts m x i b) (hm:m'≤m):FineQ ζ ts m' x i b:=
  ⟨h.1,fun a s' e=>by have:=h.2 a s' e;exact ⟨by omega,this.2⟩⟩
theorem fin_pure {a:α} (h1:m≤i) (h2:i<ts.length):FineQ ζ ts m (pure a) i b:=
  ⟨fun _=>⟨_,rfl⟩,fun a' s' e=>by
    have e:(.ok (a,(i,b)):Except Int (α×Ps)) = .ok (a',s'):=Option.some.inj e
    cases e;exact ⟨h1,h2,rfl⟩⟩
theorem fin_bad:FineQ ζ ts m (badP ts:PM α) i b:=⟨fun _=>⟨_,rfl⟩,fun a' s' e=>by cases Option.some.inj e⟩
theorem fin_bind {x:PM α} {f:α→PM β} (h:FineQ ζ ts m x i b) (hf:∀ a i',m≤i'→i'<ts.length→FineQ ζ ts m' (f a) i' b):FineQ ζ ts m' (x >>= f) i b:=by
  obtain ⟨h1,h2⟩:=h
  have e:(x >>= f) (i,b)=match x (i,b) with
    | none=>none
    | some (.error p)=>some (.error p)
    | some (.ok (a,s'))=>f a s':=rfl
  cases hr:x (i,b) with
  | none=>
    rw [hr] at e;exact ⟨fun hz=>absurd (h1 hz) (by rw [hr];rintro ⟨_,h⟩;cases h),fun a s' h=>by rw [e] at h;cases h⟩
  | some r=>
  cases r with
  | error p=>
    rw [hr] at e;exact ⟨fun _=>⟨_,e⟩,fun a s' h=>by rw [e] at h;cases Option.some.inj h⟩
  | ok az=>
    obtain ⟨a,i',b'⟩:=az;obtain ⟨k1,k2,k3⟩:=h2 a (i',b') hr;simp only at k1 k2 k3;subst k3;rw [hr] at e;obtain ⟨g1,g2⟩:=hf a i' k1 k2;exact ⟨fun hz=>by rw [e];exact g1 hz,fun a s' h=>g2 a s' (by rw [← h,e])⟩
theorem fin_now {f:Tk→PM β} (h:FineQ ζ ts m (f (tokAt ts i)) i b):FineQ ζ ts m (nowP ts >>= f) i b:=h
theorem fin_ahead {n:Nat} {f:Tk→PM β} (h:FineQ ζ ts m (f (tokAt ts (min (i+n) (ts.length - 1)))) i b):FineQ ζ ts m (aheadP ts n >>= f) i b:=h
theorem fin_is {f:Bool→PM β} (h:FineQ ζ ts m (f (oneOf (tokAt ts i) l)) i b):FineQ ζ ts m (isP ts l >>= f) i b:=h
theorem fin_from {f:Int→PM β} (h:FineQ ζ ts m (f (tokAt ts i).fr) i b):FineQ ζ ts m (fromP ts >>= f) i b:=h
theorem fin_to {f:Int→PM β} (h:FineQ ζ ts m (f (tokAt ts (i - 1)).to) i b):FineQ ζ ts m (toP ts >>= f) i b:=h
theorem fin_bare {f:Bool→PM β} (h:FineQ ζ ts m (f b) i b):FineQ ζ ts m (bareP >>= f) i b:=h
theorem fin_made {k fr:Int} {tx:ByteArray} {ks:List No} {f:No→PM β} (h:FineQ ζ ts m (f (.mk k fr (tokAt ts (i - 1)).to tx ks)) i b):FineQ ζ ts m (madeP ts k fr tx ks >>= f) i b:=h
theorem fin_mk {k fr:Int} {tx:ByteArray} {ks:List No} (h1:m≤i) (h2:i<ts.length):FineQ ζ ts m (madeP ts k fr tx ks) i b:=
  ⟨fun _=>⟨_,rfl⟩,fun a' s' e=>by
    have e:(.ok (No.mk k fr (tokAt ts (i - 1)).to tx ks,(i,b)):Except Int (No×Ps)) = .ok (a',s'):=Option.some.inj e
    cases e;exact ⟨h1,h2,rfl⟩⟩
theorem fin_empty {k:Int} (h1:m≤i) (h2:i<ts.length):FineQ ζ ts m (emptyP ts k) i b:=
  ⟨fun _=>⟨_,rfl⟩,fun a' s' e=>by
    have e:(.ok (No.mk k (tokAt ts i).fr (tokAt ts i).fr ⟨#[]⟩ [],(i,b)):Except Int (No×Ps)) = .ok (a',s'):=Option.some.inj e
    cases e;exact ⟨h1,h2,rfl⟩⟩
theorem fin_step {f:Unit→PM β} (h:FineQ ζ ts m (f ()) (i+1) b):FineQ ζ ts m (stepP >>= f) i b:=h
theorem fin_back {f:Unit→PM β} (h:FineQ ζ ts m (f ()) (i - 1) b):FineQ ζ ts m (backP >>= f) i b:=h
theorem fin_next {f:Tk→PM β} (h:FineQ ζ ts m (f (tokAt ts i)) (i+1) b):FineQ ζ ts m (nextP ts >>= f) i b:=h
theorem one_k {t:Tk} (h:oneOf t l=true):t.k=5∨t.k=4:=by
  simp only [oneOf,Bool.and_eq_true,Bool.or_eq_true,decide_eq_true_eq] at h;exact h.1
theorem one_n7 {t:Tk} (h:oneOf t l=true):t.k≠7:=by rcases one_k h with h | h <;> rw [h] <;> decide
theorem fin_take (hw:WT ts) (hi:i<ts.length) {f:Bool→PM β} (h1:oneOf (tokAt ts i) l=true→i+1<ts.length→FineQ ζ ts m (f true) (i+1) b) (h0:oneOf (tokAt ts i) l=false→FineQ ζ ts m (f false) i b):FineQ ζ ts m (takeP ts l >>= f) i b:=by
  have e:=bind_def (takeP ts l) f (i,b);unfold FineQ;rw [e];unfold takeP;by_cases h:oneOf (tokAt ts i) l=true
  · rw [if_pos h]
    exact h1 h (hw.nxt i hi (one_n7 h))
  · rw [if_neg h]
    exact h0 (by simpa using h)
theorem fin_need (hw:WT ts) (hi:i<ts.length) {x:ByteArray} {f:Tk→PM β} (h1:oneOf (tokAt ts i) [x]=true→i+1<ts.length→FineQ ζ ts m (f (tokAt ts i)) (i+1) b):FineQ ζ ts m (needP ts x >>= f) i b:=by
  have e:=bind_def (needP ts x) f (i,b);unfold FineQ;rw [e];unfold needP;by_cases h:oneOf (tokAt ts i) [x]=true
  · rw [if_pos h]
    exact h1 h (hw.nxt i hi (one_n7 h))
  · rw [if_neg h]
    exact ⟨fun _=>⟨_,rfl⟩,fun a s' e=>by cases Option.some.inj e⟩
theorem fin_semi (hw:WT ts) (hi:i<ts.length) {f:Unit→PM β} (h1:(tokAt ts i).k=6→i+1<ts.length→FineQ ζ ts m (f ()) (i+1) b):FineQ ζ ts m (semiP ts >>= f) i b:=by
  have e:=bind_def (semiP ts) f (i,b);unfold FineQ;rw [e];unfold semiP;by_cases h:(tokAt ts i).k=6
  · rw [if_pos h]
    exact h1 h (hw.nxt i hi (by rw [h];decide))
  · rw [if_neg h]
    exact ⟨fun _=>⟨_,rfl⟩,fun a s' e=>by cases Option.some.inj e⟩
theorem fin_name (hw:WT ts) (hi:i<ts.length) {f:No→PM β} (h1:(tokAt ts i).k=1→i+1<ts.length→FineQ ζ ts m (f (.mk 40 (tokAt ts i).fr (tokAt ts i).to (tokAt ts i).tx [])) (i+1) b):FineQ ζ ts m (nameP ts >>= f) i b:=by
  have e:=bind_def (nameP ts) f (i,b);unfold FineQ;rw [e];unfold nameP;by_cases h:(tokAt ts i).k=1
  · rw [if_pos h]
    exact h1 h (hw.nxt i hi (by rw [h];decide))
  · rw [if_neg h]
    exact ⟨fun _=>⟨_,rfl⟩,fun a s' e=>by cases Option.some.inj e⟩
theorem fin_name_end (hw:WT ts) (hi:i<ts.length) (hm:m≤i+1):FineQ ζ ts m (nameP ts) i b:=by
  unfold FineQ nameP;by_cases h:(tokAt ts i).k=1
  · simp only [if_pos h]
    refine ⟨fun _=>⟨_,rfl⟩,fun a s' e=>?_⟩;cases Option.some.inj e;exact ⟨hm,hw.nxt i hi (by rw [h];decide),rfl⟩
  · simp only [if_neg h]
    exact ⟨fun _=>⟨_,rfl⟩,fun a s' e=>by cases Option.some.inj e⟩
theorem fin_flag {q:Bool} {x:PM α} (h:FineQ ζ ts m x i q):FineQ ζ ts m (flagP q x) i b:=by
  obtain ⟨h1,h2⟩:=h
  have e:flagP q x (i,b)=match x (i,q) with
    | none=>none
    | some (.error p)=>some (.error p)
    | some (.ok (a,s'))=>some (.ok (a,(s'.1,b))):=rfl
  cases hr:x (i,q) with
  | none=>
    rw [hr] at e;exact ⟨fun hz=>absurd (h1 hz) (by rw [hr];rintro ⟨_,h⟩;cases h),fun a s' h=>by rw [e] at h;cases h⟩
  | some r=>
  cases r with
  | error p=>
    rw [hr] at e;exact ⟨fun _=>⟨_,e⟩,fun a s' h=>by rw [e] at h;cases Option.some.inj h⟩
  | ok az=>
    obtain ⟨a,i',b'⟩:=az;obtain ⟨k1,k2,k3⟩:=h2 a (i',b') hr;rw [hr] at e;refine ⟨fun _=>⟨_,e⟩,fun a s' h=>?_⟩;rw [e] at h;cases Option.some.inj h;exact ⟨k1,k2,rfl⟩
theorem fin_ite {c:Prop} [Decidable c] {x y:PM α} (h1:c→FineQ ζ ts m x i b) (h2:¬c→FineQ ζ ts m y i b):FineQ ζ ts m (if c then x else y) i b:=by
  by_cases h:c
  · rw [if_pos h];exact h1 h
  · rw [if_neg h];exact h2 h
theorem fin_takeI (hw:WT ts) (hi:i<ts.length) {x y:PM β} (h1:i+1<ts.length→FineQ ζ ts m x (i+1) b) (h0:FineQ ζ ts m y i b):FineQ ζ ts m (takeP ts l >>= fun q=>if q=true then x else y) i b:=
  fin_take hw hi (fun _ h=>by rw [if_pos rfl];exact h1 h) (fun _=>by rw [if_neg (by decide)];exact h0)
theorem fin_isI {x y:PM β} (h1:oneOf (tokAt ts i) l=true→FineQ ζ ts m x i b) (h0:oneOf (tokAt ts i) l=false→FineQ ζ ts m y i b):FineQ ζ ts m (isP ts l >>= fun q=>if q=true then x else y) i b:=
  fin_is (fin_ite h1 fun h=>h0 (by simpa using h))
theorem fin_list (hw:WT ts) {σ:Type} {closing:ByteArray} {least:Nat} {one:σ→PM (No×σ)} (lo:Nat) (h1:∀ u i,lo≤i→i<ts.length→FineQ ζ ts (i+1) (one u) i b) :
    ∀ (f:Nat) (u:σ) (out:List No) (i:Nat),lo≤i→i<ts.length→ts.length<f+i→FineQ ζ ts i (listP ts closing least one f u out) i b
  | 0,_,_,i,_,h,h'=>by omega
  | f+1,u,out,i,hl,h,h'=>by
    unfold listP;refine fin_is (fin_ite (fun _=>fin_pure (Nat.le_refl _) h) fun _=>?_);refine fin_bind (h1 u i hl h) fun x i' h2 h3=>?_;refine fin_takeI hw h3 (fun h4=>?_) (fin_pure (by omega) h3);exact (fin_list hw lo h1 f x.2 _ (i'+1) (by omega) h4 (by omega)).less (by omega)
theorem fin_row (hw:WT ts) {ends:Tk→Bool} {one:PM (No×Bool)} (lo:Nat) (h1:∀ i,lo≤i→i<ts.length→FineQ ζ ts i one i b) :
    ∀ (f:Nat) (out:List No) (i:Nat),lo≤i→i<ts.length→ts.length<f+i→FineQ ζ ts i (rowP ts ends one f out) i b
  | 0,_,i,_,h,h'=>by omega
  | f+1,out,i,hl,h,h'=>by
    unfold rowP;refine fin_now (fin_ite (fun _=>fin_pure (Nat.le_refl _) h) fun _=>?_);refine fin_bind (h1 i hl h) fun x i' h2 h3=>?_;refine fin_now (fin_ite (fun _=>fin_pure (by omega) h3) fun _=>?_);refine fin_semi hw h3 fun _ h4=>?_;exact (fin_row hw lo h1 f _ (i'+1) (by omega) h4 (by omega)).less (by omega)
theorem fin_braced (hw:WT ts) {one:PM (No×Bool)} (hi:i<ts.length) (h1:∀ j,i<j→j<ts.length→FineQ ζ ts j one j b):FineQ ζ ts (i+2) (bracedP ts one) i b:=by
  unfold bracedP;refine fin_need hw hi fun _ h2=>?_;refine fin_bind (fin_row hw (i+1) (fun j hj h=>h1 j (by omega) h) _ _ (i+1) (Nat.le_refl _) h2 (by omega)) fun l i' h3 h4=>?_;refine fin_need hw h4 fun _ h5=>fin_pure (by omega) h5
end
structure GFQ (ζ:Prop) (ts:List Tk) (G:Gr) (lo:Nat):Prop where
  typ:∀ i b,lo<i→i<ts.length→FineQ ζ ts (i+1) G.typ i b
  expr:∀ i b,lo<i→i<ts.length→FineQ ζ ts (i+1) G.expr i b
  unary:∀ i b,lo<i→i<ts.length→FineQ ζ ts (i+1) G.unary i b
  binary:∀ x r i b,0<r→lo<i→i<ts.length→FineQ ζ ts (if rankT (tokAt ts i)<r then i else i+1) (G.binary x r) i b
  suffixes:∀ x i b,lo<i→i<ts.length→FineQ ζ ts i (G.suffixes x) i b
  stmt:∀ i b,lo<i→i<ts.length→FineQ ζ ts i G.stmt i b
  branch:∀ i b,lo<i→i<ts.length→oneOf (tokAt ts i) [⟨#[105,102]⟩]=true→FineQ ζ ts (i+1) G.branch i b
theorem GFQ.less {ζ:Prop} {ts:List Tk} {G:Gr} {lo lo':Nat} (h:GFQ ζ ts G lo) (hl:lo≤lo'):GFQ ζ ts G lo':=
  ⟨fun i b h1=>h.typ i b (by omega),fun i b h1=>h.expr i b (by omega),fun i b h1=>h.unary i b (by omega),fun x r i b h0 h1=>h.binary x r i b h0 (by omega),fun x i b h1=>h.suffixes x i b (by omega),
   fun i b h1=>h.stmt i b (by omega),fun i b h1=>h.branch i b (by omega)⟩
section
variable {ζ:Prop} {ts:List Tk} {G:Gr} {lo i:Nat} {b:Bool}
theorem typeName_finQ (hw:WT ts) (hi:i<ts.length):FineQ ζ ts (i+1) (typeNameP ts) i b:=by
  unfold typeNameP;refine fin_name hw hi fun _ h1=>?_;exact fin_takeI hw h1 (fun h2=>fin_name hw h2 fun _ h3=>fin_mk (by omega) h3) (fin_pure (by omega) h1)
theorem paramOne_fin (hw:WT ts) (hG:GFQ ζ ts G lo) (hl:lo<i) (hi:i<ts.length) (q:Bool):FineQ ζ ts (i+1) (paramOne ts G q) i b:=by
  unfold paramOne;refine fin_ite (fun _=>fin_bad) fun _=>?_;refine fin_from (fin_name hw hi fun _ h1=>?_);refine fin_take hw h1 (fun _ h2=>?_) (fun _=>?_)
  · exact fin_bind (hG.typ _ _ (by omega) h2) fun _ i' h3 h4=>fin_made (fin_pure (by omega) h4)
  · exact fin_bind (hG.typ _ _ (by omega) h1) fun _ i' h3 h4=>fin_made (fin_pure (by omega) h4)
theorem params_fin (hw:WT ts) (hG:GFQ ζ ts G lo) (hl:lo≤i) (hi:i<ts.length):FineQ ζ ts (i+2) (paramsP ts G) i b:=by
  unfold paramsP;refine fin_need hw hi fun _ h1=>?_;refine fin_bind (fin_list hw (i+1) (fun u j hj h=>paramOne_fin hw hG (by omega) h u) _ _ _ (i+1) (Nat.le_refl _) h1 (by omega)) fun l i' h3 h4=>?_;exact fin_need hw h4 fun _ h5=>fin_mk (by omega) h5
theorem plain_fin {x:PM No} {u:Unit} {m:Nat} (h:FineQ ζ ts m x i b):FineQ ζ ts m (plain x u) i b:=
  fin_bind h fun _ _ h1 h2=>fin_pure h1 h2
theorem results_fin (hw:WT ts) (hG:GFQ ζ ts G lo) (hl:lo<i) (hi:i<ts.length):FineQ ζ ts i (resultsP ts G) i b:=by
  unfold resultsP;refine fin_isI (fun h0=>?_) (fun _=>?_)
  · have h1:=hw.nxt i hi (one_n7 h0)
    refine fin_next ?_;refine fin_bind (fin_list hw (i+1) (fun u j hj h=>plain_fin (hG.typ _ _ (by omega) h)) _ _ _ (i+1) (Nat.le_refl _) h1 (by omega)) fun l i' h3 h4=>?_;exact fin_need hw h4 fun _ h5=>fin_mk (by omega) h5
  · refine fin_now (fin_ite (fun _=>?_) fun _=>fin_empty (Nat.le_refl _) hi)
    exact fin_bind (hG.typ _ _ hl hi) fun _ i' h1 h2=>fin_mk (by omega) h2
theorem types_fin (hw:WT ts) {σ:Type} {one:σ→PM (No×σ)} {u:σ} (h1:∀ u j,i≤j→j<ts.length→FineQ ζ ts (j+1) (one u) j b) (hi:i<ts.length):FineQ ζ ts i (typesP ts one u) i b:=by
  unfold typesP;refine fin_bind (fin_empty (Nat.le_refl _) hi) fun n j h2 h3=>?_;refine fin_bind ((fin_list hw i h1 _ _ _ j (by omega) h3 (by omega)).less (m':=i) (by omega)) fun l k h4 h5=>fin_pure h4 h5
theorem funcOne_fin (hw:WT ts) (hG:GFQ ζ ts G lo) (hl:lo<i) (hi:i<ts.length) (q:Bool):FineQ ζ ts (i+1) (funcOne ts G q) i b:=by
  unfold funcOne;refine fin_ite (fun _=>fin_bad) fun _=>?_;refine fin_take hw hi (fun _ h2=>?_) (fun _=>?_)
  · exact fin_bind (hG.typ _ _ (by omega) h2) fun _ i' h3 h4=>fin_pure (by omega) h4
  · exact fin_bind (hG.typ _ _ (by omega) hi) fun _ i' h3 h4=>fin_pure (by omega) h4
theorem funcType_fin (hw:WT ts) (hG:GFQ ζ ts G lo) (hl:lo≤i) (hi:i<ts.length) (fr:Int):FineQ ζ ts (i+2) (funcTypeP ts G fr) i b:=by
  unfold funcTypeP;refine fin_need hw hi fun _ h1=>?_;refine fin_bind (types_fin hw (fun u j hj h=>funcOne_fin hw hG (by omega) h u) h1) fun l j h2 h3=>?_;refine fin_need hw h3 fun _ h4=>?_;exact fin_bind (results_fin hw hG (by omega) h4) fun r k h5 h6=>fin_mk (by omega) h6
theorem field_fin (hw:WT ts) (hG:GFQ ζ ts G lo) (hl:lo<i) (hi:i<ts.length):FineQ ζ ts (i+1) (fieldP ts G) i b:=by
  unfold fieldP;refine fin_from (fin_name hw hi fun _ h1=>?_);refine fin_now (fin_ite (fun _=>?_) fun _=>fin_ite (fun _=>?_) fun _=>?_)
  · refine fin_back ?_
    rw [Nat.add_sub_cancel];exact fin_bind (typeName_finQ hw hi) fun x j h2 h3=>fin_made (fin_pure h2 h3)
  · exact fin_made (fin_pure (Nat.le_refl _) h1)
  · exact fin_bind (hG.typ _ _ (by omega) h1) fun x j h2 h3=>fin_made (fin_pure (by omega) h3)
theorem element_fin (hw:WT ts) (hG:GFQ ζ ts G lo) (hl:lo<i) (hi:i<ts.length):FineQ ζ ts (i+1) (elementP ts G) i b:=by
  unfold elementP;refine fin_from (fin_name hw hi fun _ h1=>?_);refine fin_isI (fun h0=>?_) (fun _=>?_)
  · have h2:=hw.nxt _ h1 (one_n7 h0)
    refine fin_next ?_;refine fin_bind (types_fin hw (fun u j hj h=>plain_fin (hG.typ _ _ (by omega) h)) h2) fun l j h3 h4=>?_;refine fin_need hw h4 fun _ h5=>?_;exact fin_bind (results_fin hw hG (by omega) h5) fun r k h6 h7=>fin_made (fin_pure (by omega) h7)
  · refine fin_back ?_
    rw [Nat.add_sub_cancel];exact fin_bind (typeName_finQ hw hi) fun x j h2 h3=>fin_made (fin_pure h2 h3)
theorem typ6_fin (hw:WT ts) (hG:GFQ ζ ts G lo) (hl:lo≤i) (hi:i<ts.length) (fr:Int):FineQ ζ ts (i+1) (typ6P ts G fr) i b:=by
  unfold typ6P;refine fin_takeI hw hi (fun h1=>?_) (fin_takeI hw hi (fun h1=>?_) fin_bad)
  · exact fin_bind (fin_braced hw h1 fun j hj h=>(element_fin hw hG (by omega) h).less (by omega)) fun l j h2 h3=>fin_mk (by omega) h3
  · refine fin_bind (hG.typ _ _ (by omega) h1) fun t j h2 h3=>?_
    exact fin_need hw h3 fun _ h4=>fin_mk (by omega) h4
theorem typ_fin (hw:WT ts) (hG:GFQ ζ ts G lo) (hl:lo≤i) (hi:i<ts.length):FineQ ζ ts (i+1) (typP ts G) i b:=by
  unfold typP;refine fin_now (fin_ite (fun _=>typeName_finQ hw hi) fun _=>?_);refine fin_takeI hw hi (fun h1=>fin_bind (hG.typ _ _ (by omega) h1) fun t j h2 h3=>fin_mk (by omega) h3) ?_;refine fin_takeI hw hi (fun h1=>fin_need hw h1 fun _ h2=>fin_bind (hG.typ _ _ (by omega) h2) fun t j h2 h3=>fin_mk (by omega) h3) ?_;refine fin_takeI hw hi (fun h1=>fin_bind (hG.typ _ _ (by omega) h1) fun t j h2 h3=>fin_mk (by omega) h3) ?_;refine fin_takeI hw hi (fun h1=>(funcType_fin hw hG (by omega) h1 _).less (by omega)) ?_;refine fin_takeI hw hi (fun h1=>fin_bind (fin_braced hw h1 fun j hj h=>(field_fin hw hG (by omega) h).less (by omega)) fun l j h2 h3=>fin_mk (by omega) h3) ?_;exact typ6_fin hw hG hl hi _
/-! ### expressions -/
theorem compOne_fin (hw:WT ts) (hG:GFQ ζ ts G lo) (hl:lo<i) (hi:i<ts.length) (u:Unit):FineQ ζ ts (i+1) (compOne ts G u) i b:=by
  unfold compOne;refine fin_now (fin_ahead (fin_ite (fun _=>?_) fun _=>?_))
  · refine fin_name hw hi fun _ h1=>fin_need hw h1 fun _ h2=>?_
    exact fin_bind (hG.expr _ _ (by omega) h2) fun x j h3 h4=>fin_made (fin_pure (by omega) h4)
  · exact fin_bind (hG.expr _ _ (by omega) hi) fun x j h3 h4=>fin_pure (by omega) h4
theorem composite_fin (hw:WT ts) (hG:GFQ ζ ts G lo) (hl:lo≤i) (hi:i<ts.length) (fr:Int) (t:No):FineQ ζ ts (i+2) (compositeP ts G fr t) i b:=by
  unfold compositeP;refine fin_need hw hi fun _ h1=>?_;refine fin_bind (fin_flag (fin_list hw (i+1) (fun u j hj h=>compOne_fin hw hG (by omega) h u) _ _ _ (i+1) (Nat.le_refl _) h1 (by omega))) fun l i' h3 h4=>?_;exact fin_need hw h4 fun _ h5=>fin_mk (by omega) h5
theorem opName_fin (hw:WT ts) (hG:GFQ ζ ts G lo) (hl:lo≤i) (hi:i<ts.length):FineQ ζ ts (i+1) (opNameP ts G) i b:=by
  unfold opNameP;refine fin_name hw hi fun _ h1=>fin_bare (fin_ite (fun _=>fin_pure (Nat.le_refl _) h1) fun _=>?_);refine fin_isI (fun _=>(composite_fin hw hG (by omega) h1 _ _).less (by omega)) (fun _=>?_);refine fin_is (fin_ahead (fin_ahead (fin_ite (fun _=>?_) fun _=>fin_pure (Nat.le_refl _) h1)));refine fin_back ?_;rw [Nat.add_sub_cancel];exact fin_bind (typeName_finQ hw hi) fun x j h2 h3=>(composite_fin hw hG (by omega) h3 _ _).less (by omega)
theorem block_fin (hw:WT ts) (hG:GFQ ζ ts G lo) (hl:lo≤i) (hi:i<ts.length):FineQ ζ ts (i+2) (blockP ts G) i b:=by
  unfold blockP;refine fin_from (fin_bind (fin_flag (fin_braced hw hi fun j hj h=>hG.stmt _ _ (by omega) h)) fun l j h2 h3=>fin_mk (by omega) h3)
theorem arg_fin (hw:WT ts) (hG:GFQ ζ ts G lo) (hl:lo<i) (hi:i<ts.length):FineQ ζ ts (i+1) (argP ts G) i b:=by
  unfold argP;refine fin_isI (fun _=>?_) (fun _=>hG.expr _ _ hl hi);refine fin_from (fin_is (fin_bind (hG.typ _ _ hl hi) fun t j h1 h2=>?_));refine fin_is (fin_ite (fun _=>?_) fun _=>fin_pure (by omega) h2);refine fin_bind (composite_fin hw hG (by omega) h2 _ _) fun x j2 h3 h4=>?_;refine fin_bind (hG.suffixes _ _ _ (by omega) h4) fun y j3 h5 h6=>?_;exact (hG.binary _ _ _ _ (by omega) (by omega) h6).less (by split <;> omega)
theorem operand_fin (hw:WT ts) (hG:GFQ ζ ts G lo) (hl:lo≤i) (hi:i<ts.length):FineQ ζ ts (i+1) (operandP ts G) i b:=by
  unfold operandP;refine fin_now (fin_ite (fun h=>?_) fun _=>fin_ite (fun h=>?_) fun _=>fin_ite (fun h=>opName_fin hw hG hl hi) fun _=>?_)
  · exact fin_step (fin_mk (Nat.le_refl _) (hw.nxt i hi (by rw [h];decide)))
  · exact fin_step (fin_mk (Nat.le_refl _) (hw.nxt i hi (by rw [h];decide)))
  refine fin_takeI hw hi (fun h1=>?_) (fin_takeI hw hi (fun h1=>?_) (fin_isI (fun h0=>?_) (fun _=>fin_bad)))
  · refine fin_bind (fin_flag (hG.expr _ _ (by omega) h1)) fun x j h2 h3=>?_
    exact fin_need hw h3 fun _ h4=>fin_mk (by omega) h4
  · refine fin_bind (params_fin hw hG (by omega) h1) fun a j h2 h3=>?_
    refine fin_bind (results_fin hw hG (by omega) h3) fun r k h4 h5=>?_;exact fin_bind (block_fin hw hG (by omega) h5) fun c l h6 h7=>fin_mk (by omega) h7
  · refine fin_bind (typ_fin hw hG hl hi) fun x j h2 h3=>?_
    exact (composite_fin hw hG (by omega) h3 _ _).less (by omega)
theorem callOne_fin (hw:WT ts) (hG:GFQ ζ ts G lo) (hl:lo<i) (hi:i<ts.length) (q:Bool):FineQ ζ ts (i+1) (callOne ts G q) i b:=by
  unfold callOne;refine fin_ite (fun _=>fin_bad) fun _=>?_;refine fin_bind (arg_fin hw hG hl hi) fun x j h1 h2=>?_;exact fin_take hw h2 (fun _ h3=>fin_pure (by omega) h3) (fun _=>fin_pure (by omega) h2)
theorem call_fin (hw:WT ts) (hG:GFQ ζ ts G lo) (hl:lo<i) (hi:i<ts.length) (x:No):FineQ ζ ts (i+1) (callP ts G x) i b:=by
  unfold callP;refine fin_bind (fin_flag (fin_list hw i (fun u j hj h=>callOne_fin hw hG (by omega) h u) _ _ _ i (Nat.le_refl _) hi (by omega))) fun l j h1 h2=>?_;exact fin_need hw h2 fun _ h3=>fin_mk (by omega) h3
theorem suffix_fin (hw:WT ts) (hG:GFQ ζ ts G lo) (hl:lo≤i) (hi:i<ts.length) (x:No) :
    (ζ→∃ r,suffixP ts G x (i,b)=some r)∧∀ a s',suffixP ts G x (i,b)=some (.ok (a,s'))→(if a.2=true then i+1 else i)≤s'.1∧s'.1<ts.length∧s'.2=b:=by
  have key:∀ {x:PM (No×Bool)},FineQ ζ ts (i+1) x (i+1) b→(ζ→∃ r,x (i+1,b)=some r)∧∀ a s',x (i+1,b)=some (.ok (a,s'))→(if a.2=true then i+1 else i)≤s'.1∧s'.1<ts.length∧s'.2=b:=
    fun h=>⟨h.1,fun a s' e=>⟨by have:=(h.2 a s' e).1;split <;> omega,(h.2 a s' e).2⟩⟩
  have tk:∀ {l:List ByteArray} {x y:PM (No×Bool)},(i+1<ts.length→FineQ ζ ts (i+1) x (i+1) b)→((ζ→∃ r,y (i,b)=some r)∧∀ a s',y (i,b)=some (.ok (a,s'))→(if a.2=true then i+1 else i)≤s'.1∧s'.1<ts.length∧s'.2=b)→
      ((ζ→∃ r,(takeP ts l >>= fun q=>if q=true then x else y) (i,b)=some r)∧∀ a s',(takeP ts l >>= fun q=>if q=true then x else y) (i,b)=some (.ok (a,s'))→(if a.2=true then i+1 else i)≤s'.1∧s'.1<ts.length∧s'.2=b):=by
    intro l x y hx hy;by_cases h:oneOf (tokAt ts i) l=true
    · have e:(takeP ts l >>= fun q=>if q=true then x else y) (i,b)=x (i+1,b):=by
        rw [bind_def];unfold takeP;rw [if_pos h];rfl
      rw [e];exact key (hx (hw.nxt i hi (one_n7 h)))
    · have e:(takeP ts l >>= fun q=>if q=true then x else y) (i,b)=y (i,b):=by
        rw [bind_def];unfold takeP;rw [if_neg h];rfl
      rw [e];exact hy
  unfold suffixP;refine tk (fun h1=>?_) (tk (fun h1=>?_) (tk (fun h1=>?_) ?_))
  · refine fin_takeI hw h1 (fun h2=>?_) ?_
    · refine fin_bind (hG.typ _ _ (by omega) h2) fun t j h3 h4=>?_
      exact fin_need hw h4 fun _ h5=>fin_made (fin_pure (by omega) h5)
    · exact fin_name hw h1 fun _ h2=>fin_made (fin_pure (by omega) h2)
  · refine fin_bind (fin_flag (fin_list hw (i+1) (fun u j hj h=>plain_fin (arg_fin hw hG (by omega) h)) _ _ _ (i+1) (Nat.le_refl _) h1 (by omega))) fun l j h2 h3=>?_
    exact fin_need hw h3 fun _ h5=>fin_made (fin_pure (by omega) h5)
  · exact fin_bind (call_fin hw hG (by omega) h1 _) fun y j h2 h3=>fin_pure (by omega) h3
  · refine ⟨fun _=>⟨_,rfl⟩,fun a s' e=>?_⟩
    have e:(.ok ((x,false),(i,b)):Except Int ((No×Bool)×Ps)) = .ok (a,s'):=Option.some.inj e;cases e;exact ⟨Nat.le_refl _,hi,rfl⟩
theorem suffixesL_fin (hw:WT ts) (hG:GFQ ζ ts G lo):∀ (f:Nat) (x:No) (i:Nat),lo≤i→i<ts.length→ts.length<f+i→FineQ ζ ts i (suffixesL ts G f x) i b
  | 0,_,i,_,h,h'=>by omega
  | f+1,x,i,hl,h,h'=>by
    unfold suffixesL;obtain ⟨hz1,h2⟩:=suffix_fin (b:=b) hw hG hl h x;have e:=bind_def (suffixP ts G x) (fun y=>if y.2=true then suffixesL ts G f y.1 else pure y.1) (i,b);unfold FineQ;rw [e];cases hr:suffixP ts G x (i,b) with
    | none=>exact ⟨fun hz=>absurd (hz1 hz) (by rw [hr];rintro ⟨_,h⟩;cases h),fun a s' h=>by cases h⟩
    | some r=>
    cases r with
    | error p=>exact ⟨fun _=>⟨_,rfl⟩,fun a s' h=>by cases Option.some.inj h⟩
    | ok az=>
      obtain ⟨⟨y,q⟩,i',b'⟩:=az;obtain ⟨k1,k2,k3⟩:=h2 _ _ hr;simp only at k1 k2 k3;subst b';cases q with
      | true=>
        (have k1:i+1≤i':=by simpa using k1);exact (suffixesL_fin hw hG f y i' (by omega) k2 (by omega)).less (m':=i) (by omega)
      | false=>
        (have k1:i≤i':=by simpa using k1);exact fin_pure k1 k2
theorem suffixes_fin (hw:WT ts) (hG:GFQ ζ ts G lo) (hl:lo≤i) (hi:i<ts.length) (x:No):FineQ ζ ts i (suffixesP ts G x) i b:=
  suffixesL_fin hw hG _ x i hl hi (by omega)
theorem primary_fin (hw:WT ts) (hG:GFQ ζ ts G lo) (hl:lo≤i) (hi:i<ts.length):FineQ ζ ts (i+1) (primaryP ts G) i b:=by
  unfold primaryP;exact fin_bind (operand_fin hw hG hl hi) fun x j h1 h2=>(suffixes_fin hw hG (by omega) h2 x).less (by omega)
theorem unary_fin (hw:WT ts) (hG:GFQ ζ ts G lo) (hl:lo≤i) (hi:i<ts.length):FineQ ζ ts (i+1) (unaryP ts G) i b:=by
  unfold unaryP;refine fin_now (fin_takeI hw hi (fun h1=>?_) (primary_fin hw hG hl hi));exact fin_bind (hG.unary _ _ (by omega) h1) fun x j h2 h3=>fin_mk (by omega) h3
theorem rank_n7 {t:Tk} {r:Nat} (h:r<rankT t):t.k≠7:=by
  intro e;unfold rankT at h;rw [if_pos (by rw [e];decide)] at h;omega
theorem rise_fin (hG:GFQ ζ ts G lo) (r:Nat):∀ (f:Nat) (y:No) (i:Nat),lo<i→i<ts.length→ts.length<f+i→FineQ ζ ts i (riseP ts G r f y) i b
  | 0,_,i,_,h,h'=>by omega
  | f+1,y,i,hl,h,h'=>by
    unfold riseP;refine fin_now (fin_ite (fun hr=>?_) fun _=>fin_pure (Nat.le_refl _) h);have hb:=hG.binary y (r+1) i b (by omega) hl h;rw [if_neg (by omega)] at hb;exact fin_bind hb fun z j h1 h2=>(rise_fin hG r f z j (by omega) h2 (by omega)).less (by omega)
theorem binaryL_fin (hw:WT ts) (hG:GFQ ζ ts G lo) (r:Nat) (hr:0<r):∀ (f:Nat) (y:No) (i:Nat),lo≤i→i<ts.length→ts.length<f+i→FineQ ζ ts (if rankT (tokAt ts i)<r then i else i+1) (binaryL ts G r f y) i b
  | 0,_,i,_,h,h'=>by omega
  | f+1,y,i,hl,h,h'=>by
    unfold binaryL;by_cases hk:rankT (tokAt ts i)<r
    · rw [if_pos hk]
      exact fin_now (fin_ite (fun _=>fin_pure (Nat.le_refl _) h) fun h=>absurd hk h)
    · rw [if_neg hk]
      refine fin_now (fin_ite (fun h=>absurd h hk) fun _=>?_);have h1:=hw.nxt i h (rank_n7 (r:=0) (by omega));refine fin_step (fin_bind (hG.unary _ _ (by omega) h1) fun x j h2 h3=>?_);refine fin_bind (rise_fin hG _ _ _ _ (by omega) h3 (by omega)) fun z k h4 h5=>?_;exact fin_made ((binaryL_fin hw hG r hr f _ k (by omega) h5 (by omega)).less (by split <;> omega))
theorem binary_fin (hw:WT ts) (hG:GFQ ζ ts G lo) (hl:lo≤i) (hi:i<ts.length) (x:No) (r:Nat) (hr:0<r):FineQ ζ ts (if rankT (tokAt ts i)<r then i else i+1) (binaryP ts G x r) i b:=
  binaryL_fin hw hG r hr _ x i hl hi (by omega)
end
section
variable {ζ:Prop} {ts:List Tk} {G:Gr} {lo i:Nat} {b:Bool}
theorem expr_fin (hw:WT ts) (hG:GFQ ζ ts G lo) (hl:lo≤i) (hi:i<ts.length):FineQ ζ ts (i+1) (exprP ts G) i b:=by
  unfold exprP;exact fin_bind (unary_fin hw hG hl hi) fun x j h1 h2=>(binary_fin hw hG (by omega) h2 x 1 (by omega)).less (by split <;> omega)
theorem fin_opt {α:Type} {m:Nat} {q:Bool} {x y:PM α} (h1:FineQ ζ ts m x i b) (h2:FineQ ζ ts m y i b):FineQ ζ ts m (if q=true then x else y) i b:=fin_ite (fun _=>h1) (fun _=>h2)
theorem variable_fin (hw:WT ts) (hG:GFQ ζ ts G lo) (hl:lo≤i) (hi:i<ts.length) (h0:(tokAt ts i).k≠7):FineQ ζ ts (i+1) (variableP ts G) i b:=by
  unfold variableP;have h1:=hw.nxt i hi h0;refine fin_next (fin_name hw h1 fun _ h2=>fin_is (fin_bind (m:=i+2) (fin_opt (fin_pure (Nat.le_refl _) h2) ((typ_fin hw hG (by omega) h2).less (by omega))) fun ty j h3 h4=>?_));refine fin_take hw h4 (fun _ h5=>?_) (fun _=>?_)
  · exact fin_bind (m:=j+1) (fin_opt ((expr_fin hw hG (by omega) h5).less (by omega)) (fin_pure (Nat.le_refl _) h5)) fun x k h6 h7=>fin_mk (by omega) h7
  · exact fin_bind (m:=j) (fin_opt ((expr_fin hw hG (by omega) h4).less (by omega)) (fin_pure (Nat.le_refl _) h4)) fun x k h6 h7=>fin_mk (by omega) h7
theorem constant_fin (hw:WT ts) (hG:GFQ ζ ts G lo) (hl:lo≤i) (hi:i<ts.length) (h0:(tokAt ts i).k≠7):FineQ ζ ts (i+1) (constantP ts G) i b:=by
  unfold constantP;have h1:=hw.nxt i hi h0;refine fin_next (fin_name hw h1 fun _ h2=>fin_is (fin_bind (m:=i+2) (fin_opt (fin_pure (Nat.le_refl _) h2) ((typ_fin hw hG (by omega) h2).less (by omega))) fun ty j h3 h4=>?_));refine fin_need hw h4 fun _ h5=>fin_bind (expr_fin hw hG (by omega) h5) fun x k h6 h7=>fin_mk (by omega) h7
theorem called_fin (hw:WT ts) (hG:GFQ ζ ts G lo) (hl:lo≤i) (hi:i<ts.length) (k fr:Int):FineQ ζ ts (i+1) (calledP ts G k fr) i b:=by
  unfold calledP;exact fin_bind (primary_fin hw hG hl hi) fun x j h1 h2=>fin_ite (fun _=>fin_mk h1 h2) (fun _=>fin_bad)
theorem more_fin (hw:WT ts) (hG:GFQ ζ ts G lo):∀ (f:Nat) (l:List No) (i:Nat),lo≤i→i<ts.length→ts.length<f+i→FineQ ζ ts i (moreL ts G f l) i b
  | 0,_,i,_,h,h'=>by omega
  | f+1,l,i,hl,h,h'=>by
    unfold moreL;refine fin_takeI hw h (fun h1=>?_) (fin_pure (Nat.le_refl _) h);exact fin_bind (expr_fin hw hG (by omega) h1) fun x j h2 h3=>(more_fin hw hG f _ j (by omega) h3 (by omega)).less (by omega)
theorem exprs_fin (hw:WT ts) (hG:GFQ ζ ts G lo) (hl:lo≤i) (hi:i<ts.length):FineQ ζ ts (i+1) (exprsP ts G) i b:=by
  unfold exprsP;exact fin_bind (expr_fin hw hG hl hi) fun x j h1 h2=>(more_fin hw hG _ _ j (by omega) h2 (by omega)).less (by omega)
theorem simpleOr_fin (hw:WT ts) (hG:GFQ ζ ts G lo) (hl:lo≤i) (hi:i<ts.length) {σ:Type} {or_:List No→PM (Option σ)} (ho:∀ l j,i<j→j<ts.length→FineQ ζ ts j (or_ l) j b):FineQ ζ ts (i+1) (simpleOrP ts G or_) i b:=by
  unfold simpleOrP;refine fin_from (fin_bind (exprs_fin hw hG hl hi) fun l j h1 h2=>fin_now ?_);refine fin_ite (fun hq=>?_) fun _=>fin_ite (fun hq=>?_) fun _=>fin_ite (fun hq=>?_) fun _=>fin_ite (fun hq=>?_) fun _=>fin_ite (fun hq=>?_) fun _=>fin_ite (fun _=>?_) fun _=>fin_bad
  · have h3:=hw.nxt j h2 (one_n7 hq.2)
    exact fin_step (fin_bind (expr_fin hw hG (by omega) h3) fun x k h4 h5=>fin_made (fin_pure (by omega) h5))
  · have h3:=hw.nxt j h2 (one_n7 hq)
    refine fin_step (fin_bind (expr_fin hw hG (by omega) h3) fun x k h4 h5=>?_);exact fin_bind (more_fin hw hG _ _ k (by omega) h5 (by omega)) fun r n h6 h7=>fin_made (fin_pure (by omega) h7)
  · have h3:=hw.nxt j h2 (one_n7 hq.2)
    exact fin_step (fin_bind (expr_fin hw hG (by omega) h3) fun x k h4 h5=>fin_made (fin_pure (by omega) h5))
  · have h3:=hw.nxt j h2 (one_n7 hq.2)
    exact fin_step (fin_made (fin_pure (by omega) h3))
  · have h3:=hw.nxt j h2 (one_n7 hq.2)
    refine fin_step (fin_bind (ho l _ (by omega) h3) fun o k h4 h5=>?_);cases o with
    | some u=>exact fin_pure (by omega) h5
    | none=>exact fin_bind (exprs_fin hw hG (by omega) h5) fun r n h6 h7=>fin_made (fin_pure (by omega) h7)
  · exact fin_made (fin_pure (by omega) h2)
theorem simple_fin (hw:WT ts) (hG:GFQ ζ ts G lo) (hl:lo≤i) (hi:i<ts.length):FineQ ζ ts (i+1) (simpleP ts G) i b:=by
  unfold simpleP;exact fin_bind (simpleOr_fin hw hG hl hi fun l j _ h=>fin_pure (Nat.le_refl _) h) fun x j h1 h2=>fin_pure h1 h2
theorem ifHead_fin (hw:WT ts) (hG:GFQ ζ ts G lo) (hl:lo≤i) (hi:i<ts.length):FineQ ζ ts (i+1) (ifHeadP ts G) i b:=by
  unfold ifHeadP;refine fin_bind (simple_fin hw hG hl hi) fun n j h1 h2=>fin_now (fin_ite (fun hq=>?_) fun _=>fin_ite (fun _=>fin_pure h1 h2) fun _=>fin_bad);have h3:=hw.nxt j h2 (by rw [hq];decide);exact fin_step (fin_bind (expr_fin hw hG (by omega) h3) fun x k h4 h5=>fin_pure (by omega) h5)
theorem branch_fin (hw:WT ts) (hG:GFQ ζ ts G lo) (hl:lo≤i) (hi:i<ts.length) (h0:(tokAt ts i).k≠7):FineQ ζ ts (i+1) (branchP ts G) i b:=by
  unfold branchP;have h1:=hw.nxt i hi h0;refine fin_next (fin_bind (fin_flag (ifHead_fin hw hG (by omega) h1)) fun h j h2 h3=>?_);refine fin_bind (block_fin hw hG (by omega) h3) fun c k h4 h5=>?_;refine fin_takeI hw h5 (fun h6=>?_) (fin_mk (by omega) h5);refine fin_now (fin_ite (fun hq=>?_) fun _=>fin_ite (fun _=>?_) fun _=>fin_bad)
  · exact fin_bind (hG.branch _ _ (by omega) h6 hq) fun o n h7 h8=>fin_mk (by omega) h8
  · exact fin_bind (block_fin hw hG (by omega) h6) fun o n h7 h8=>fin_mk (by omega) h8
theorem ranged_fin (hw:WT ts) (hG:GFQ ζ ts G lo) (hl:lo≤i) (hi:i<ts.length) (l:List No):FineQ ζ ts (i+1) (rangedP ts G l) i b:=by
  unfold rangedP;exact fin_need hw hi fun _ h1=>fin_bind (expr_fin hw hG (by omega) h1) fun x j h2 h3=>fin_pure (by omega) h3
theorem forOr_fin (hw:WT ts) (hG:GFQ ζ ts G lo) (hl:lo≤i) (hi:i<ts.length) (l:List No):FineQ ζ ts i (forOr ts G l) i b:=by
  unfold forOr;refine fin_is (fin_ite (fun _=>?_) fun _=>fin_pure (Nat.le_refl _) hi);exact fin_bind (ranged_fin hw hG hl hi l) fun r j h1 h2=>fin_pure (by omega) h2
theorem forTail_fin (hw:WT ts) (hG:GFQ ζ ts G lo) (hl:lo≤i) (hi:i<ts.length) (n:No):FineQ ζ ts i (forTailP ts G n) i b:=by
  unfold forTailP;refine fin_semi hw hi fun _ h1=>fin_now (fin_bind (m:=i+1) (fin_ite (fun _=>fin_pure (Nat.le_refl _) h1) fun _=>(expr_fin hw hG (by omega) h1).less (by omega)) fun c j h2 h3=>?_);refine fin_semi hw h3 fun _ h4=>fin_is (fin_bind (m:=j+1) (fin_opt (fin_pure (Nat.le_refl _) h4) ((simple_fin hw hG (by omega) h4).less (by omega))) fun s k h5 h6=>fin_pure (by omega) h6)
theorem forHead_fin (hw:WT ts) (hG:GFQ ζ ts G lo) (hl:lo≤i) (hi:i<ts.length):FineQ ζ ts i (forHeadP ts G) i b:=by
  unfold forHeadP;refine fin_now (fin_ite (fun _=>fin_pure (Nat.le_refl _) hi) fun _=>fin_ite (fun _=>?_) fun _=>fin_ite (fun _=>forTail_fin hw hG hl hi _) fun _=>?_)
  · exact fin_bind (ranged_fin hw hG hl hi _) fun r j h1 h2=>fin_pure (by omega) h2
  · refine fin_bind (simpleOr_fin hw hG hl hi fun l j h1 h2=>forOr_fin hw hG (by omega) h2 l) fun x j h1 h2=>?_
    cases x with
    | inr r=>exact fin_pure (by omega) h2
    | inl n=>exact fin_now (fin_ite (fun _=>(forTail_fin hw hG (by omega) h2 n).less (by omega)) fun _=>fin_ite (fun _=>fin_pure (by omega) h2) fun _=>fin_bad)
theorem loop_fin (hw:WT ts) (hG:GFQ ζ ts G lo) (hl:lo≤i) (hi:i<ts.length) (fr:Int):FineQ ζ ts i (loopP ts G fr) i b:=by
  unfold loopP;refine fin_bind (fin_flag (forHead_fin hw hG hl hi)) fun h j h1 h2=>?_;refine fin_bind (block_fin hw hG (by omega) h2) fun c k h3 h4=>?_;cases h with
  | inr r=>exact fin_mk (by omega) h4
  | inl x=>exact fin_mk (by omega) h4
theorem caseOne_fin (hw:WT ts) (hG:GFQ ζ ts G lo) (hl:lo≤i) (hi:i<ts.length) (k:Int) {head:PM No} (hh:∀ j,i<j→j<ts.length→FineQ ζ ts j head j b):FineQ ζ ts (i+1) (caseOneP ts G k head) i b:=by
  unfold caseOneP
  have tail:∀ (h:No) j,i≤j→j<ts.length→FineQ ζ ts (i+1) (do
      let c ← needP ts ⟨#[58]⟩
      let l ← rowP ts caseEnd G.stmt (ts.length+1) []
      pure (No.mk k (tokAt ts i).fr (lastTo c.to l) ⟨#[]⟩ (h :: l))) j b:=fun h j h1 h2=>
    fin_need hw h2 fun _ h3=>fin_bind (fin_row hw (j+1) (fun n hn h=>hG.stmt _ _ (by omega) h) _ _ (j+1) (Nat.le_refl _) h3 (by omega)) fun l n h4 h5=>fin_pure (by omega) h5
  refine fin_from (fin_take hw hi (fun _ h1=>?_) (fun _=>?_))
  · exact fin_bind (m:=i) (fin_opt (fin_pure (by omega) h1) (fin_need hw h1 fun _ h2=>(hh _ (by omega) h2).less (by omega))) fun h j h1 h2=>tail h j h1 h2
  · exact fin_bind (m:=i) (fin_opt (fin_pure (by omega) hi) (fin_need hw hi fun _ h2=>(hh _ (by omega) h2).less (by omega))) fun h j h1 h2=>tail h j h1 h2
theorem casesL_fin (hw:WT ts) (hG:GFQ ζ ts G lo) (k:Int) {head:PM No} (hh:∀ j,lo<j→j<ts.length→FineQ ζ ts j head j b):∀ (f:Nat) (out:List No) (i:Nat),lo≤i→i<ts.length→ts.length<f+i→FineQ ζ ts i (casesL ts G k head f out) i b
  | 0,_,i,_,h,h'=>by omega
  | f+1,out,i,hl,h,h'=>by
    unfold casesL;refine fin_isI (fun _=>fin_pure (Nat.le_refl _) h) (fun _=>?_);exact fin_bind (caseOne_fin hw hG hl h k fun j h1 h2=>hh j (by omega) h2) fun x j h1 h2=>(casesL_fin hw hG k hh f _ j (by omega) h2 (by omega)).less (by omega)
theorem cases_fin (hw:WT ts) (hG:GFQ ζ ts G lo) (hl:lo≤i) (hi:i<ts.length) (k:Int) {head:PM No} (hh:∀ j,lo<j→j<ts.length→FineQ ζ ts j head j false):FineQ ζ ts i (casesP ts G k head) i b:=by
  unfold casesP;refine fin_need hw hi fun _ h1=>fin_bind (fin_flag (casesL_fin hw hG k hh _ _ (i+1) (by omega) h1 (by omega))) fun l j h2 h3=>?_;exact fin_need hw h3 fun _ h4=>fin_pure (by omega) h4
theorem several_fin (hw:WT ts) (hG:GFQ ζ ts G lo) (hl:lo≤i) (hi:i<ts.length):FineQ ζ ts (i+1) (severalP ts G) i b:=by
  unfold severalP;exact fin_bind (exprs_fin hw hG hl hi) fun l j h1 h2=>fin_pure h1 h2
theorem choice_fin (hw:WT ts) (hG:GFQ ζ ts G lo) (hl:lo≤i) (hi:i<ts.length) (fr:Int):FineQ ζ ts i (choiceP ts G fr) i b:=by
  unfold choiceP;refine fin_bind (fin_flag (expr_fin hw hG hl hi)) fun x j h1 h2=>?_;exact fin_bind (cases_fin hw hG (by omega) h2 76 fun k hk h=>(several_fin hw hG (by omega) h).less (by omega)) fun l k h3 h4=>fin_mk (by omega) h4
theorem comm_fin (hw:WT ts) (hG:GFQ ζ ts G lo) (hl:lo≤i) (hi:i<ts.length):FineQ ζ ts (i+1) (commP ts G) i b:=by
  unfold commP;refine fin_from (fin_now (fin_ahead (fin_ite (fun _=>?_) fun _=>?_)))
  · have tail:∀ (n m:No) j,i<j→j<ts.length→FineQ ζ ts (i+1) (do
        let _ ← needP ts ⟨#[58,61]⟩
        let _ ← needP ts ⟨#[60,45]⟩
        let x ← unaryP ts G
        madeP ts 79 (tokAt ts i).fr ⟨#[]⟩ [n,m,x]) j b:=fun n m j h1 h2=>
      fin_need hw h2 fun _ h3=>fin_need hw h3 fun _ h4=>fin_bind (unary_fin hw hG (by omega) h4) fun x k h5 h6=>fin_mk (by omega) h6
    refine fin_name hw hi fun _ h1=>fin_take hw h1 (fun _ h2=>?_) (fun _=>?_)
    · exact fin_bind (m:=i+1) (fin_opt (fin_name_end hw h2 (by omega)) (fin_pure (by omega) h2)) fun m j h3 h4=>tail _ m j (by omega) h4
    · exact fin_bind (m:=i+1) (fin_opt (fin_name_end hw h1 (by omega)) (fin_pure (by omega) h1)) fun m j h3 h4=>tail _ m j (by omega) h4
  · refine fin_bind (expr_fin hw hG hl hi) fun x j h1 h2=>fin_takeI hw h2 (fun h3=>?_) (fin_ite (fun _=>fin_mk h1 h2) fun _=>fin_bad)
    exact fin_bind (expr_fin hw hG (by omega) h3) fun y k h4 h5=>fin_mk (by omega) h5
theorem comms_fin (hw:WT ts) (hG:GFQ ζ ts G lo) (hl:lo≤i) (hi:i<ts.length) (fr:Int):FineQ ζ ts i (commsP ts G fr) i b:=by
  unfold commsP;exact fin_bind (cases_fin hw hG hl hi 78 fun k hk h=>(comm_fin hw hG (by omega) h).less (by omega)) fun l k h3 h4=>fin_mk (by omega) h4
theorem ok_fin {m:Nat} {x:PM No} (h:FineQ ζ ts m x i b):FineQ ζ ts m (okN x) i b:=fin_bind h fun _ _ h1 h2=>fin_pure h1 h2
theorem stmt2_fin (hw:WT ts) (hG:GFQ ζ ts G lo) (hl:lo≤i) (hi:i<ts.length) (fr:Int):FineQ ζ ts i (stmt2P ts G fr) i b:=by
  unfold stmt2P;refine fin_takeI hw hi (fun h1=>ok_fin (fin_mk (by omega) h1)) ?_;refine fin_takeI hw hi (fun h1=>ok_fin (fin_mk (by omega) h1)) ?_;refine fin_isI (fun h=>ok_fin ((branch_fin hw hG hl hi (one_n7 h)).less (by omega))) (fun _=>?_);refine fin_takeI hw hi (fun h1=>ok_fin ((loop_fin hw hG (by omega) h1 fr).less (by omega))) ?_;refine fin_takeI hw hi (fun h1=>ok_fin ((choice_fin hw hG (by omega) h1 fr).less (by omega))) ?_;refine fin_takeI hw hi (fun h1=>ok_fin ((comms_fin hw hG (by omega) h1 fr).less (by omega))) ?_;exact ok_fin ((simple_fin hw hG hl hi).less (by omega))
theorem stmt_fin (hw:WT ts) (hG:GFQ ζ ts G lo) (hl:lo≤i) (hi:i<ts.length):FineQ ζ ts i (stmtP ts G) i b:=by
  unfold stmtP
  refine fin_now (fin_ite (fun _=>fin_pure (Nat.le_refl _) hi) fun _=>fin_ite (fun h=>ok_fin ((variable_fin hw hG hl hi (one_n7 h)).less (by omega))) fun _=>fin_ite (fun h=>ok_fin ((constant_fin hw hG hl hi (one_n7 h)).less (by omega))) fun _=>
    fin_ite (fun _=>ok_fin ((block_fin hw hG hl hi).less (by omega))) fun _=>?_)
  refine fin_takeI hw hi (fun h1=>ok_fin ((called_fin hw hG (by omega) h1 _ _).less (by omega))) ?_;refine fin_takeI hw hi (fun h1=>ok_fin ((called_fin hw hG (by omega) h1 _ _).less (by omega))) ?_;refine fin_takeI hw hi (fun h1=>?_) (stmt2_fin hw hG hl hi _);exact fin_now (fin_bind (m:=i) (fin_opt ((exprs_fin hw hG (by omega) h1).less (by omega)) (fin_pure (by omega) h1)) fun l j h2 h3=>ok_fin (fin_mk (by omega) h3))
end
theorem gr_finQ {ζ:Prop} {ts:List Tk} (hw:WT ts):∀ (n lo:Nat),(ζ→ts.length≤n+lo+1)→GFQ ζ ts (gr ts n) lo
  | 0,lo,h=>⟨fun i b h1 h2=>⟨fun z=>absurd (h z) (by omega),fun a s' e=>by cases e⟩,fun i b h1 h2=>⟨fun z=>absurd (h z) (by omega),fun a s' e=>by cases e⟩,fun i b h1 h2=>⟨fun z=>absurd (h z) (by omega),fun a s' e=>by cases e⟩,fun x r i b h0 h1 h2=>⟨fun z=>absurd (h z) (by omega),fun a s' e=>by cases e⟩,fun x i b h1 h2=>⟨fun z=>absurd (h z) (by omega),fun a s' e=>by cases e⟩,fun i b h1 h2=>⟨fun z=>absurd (h z) (by omega),fun a s' e=>by cases e⟩,fun i b h1 h2 _=>⟨fun z=>absurd (h z) (by omega),fun a s' e=>by cases e⟩⟩
  | n+1,lo,h=>by
    have ih:∀ i,lo<i→GFQ ζ ts (gr ts n) i:=fun i hi=>gr_finQ hw n i fun z=>by have:=h z;omega
    refine ⟨fun i b h1 h2=>typ_fin hw (ih i h1) (Nat.le_refl _) h2,fun i b h1 h2=>expr_fin hw (ih i h1) (Nat.le_refl _) h2,fun i b h1 h2=>unary_fin hw (ih i h1) (Nat.le_refl _) h2,fun x r i b h0 h1 h2=>binary_fin hw (ih i h1) (Nat.le_refl _) h2 x r h0,
      fun x i b h1 h2=>suffixes_fin hw (ih i h1) (Nat.le_refl _) h2 x,fun i b h1 h2=>stmt_fin hw (ih i h1) (Nat.le_refl _) h2,fun i b h1 h2 h3=>branch_fin hw (ih i h1) (Nat.le_refl _) h2 (one_n7 h3)⟩
section
variable {ζ:Prop} {ts:List Tk} {G:Gr} {lo i:Nat} {b:Bool}
theorem or_fin (hw:WT ts) (hG:GFQ ζ ts G lo):∀ (f:Nat) (l:List No) (i:Nat),lo≤i→i<ts.length→ts.length<f+i→FineQ ζ ts i (orL ts G f l) i b
  | 0,_,i,_,h,h'=>by omega
  | f+1,l,i,hl,h,h'=>by
    unfold orL;refine fin_takeI hw h (fun h1=>?_) (fin_pure (Nat.le_refl _) h);exact fin_bind (typ_fin hw hG (by omega) h1) fun x j h2 h3=>(or_fin hw hG f _ j (by omega) h3 (by omega)).less (by omega)
theorem typeParam_fin (hw:WT ts) (hG:GFQ ζ ts G lo) (hl:lo≤i) (hi:i<ts.length):FineQ ζ ts (i+1) (typeParamP ts G) i b:=by
  unfold typeParamP;refine fin_from (fin_name hw hi fun _ h1=>fin_from (fin_bind (typ_fin hw hG (by omega) h1) fun x j h2 h3=>?_));refine fin_bind (or_fin hw hG _ _ j (by omega) h3 (by omega)) fun l k h4 h5=>?_;exact fin_bind (m:=k) (fin_ite (fun _=>fin_mk (Nat.le_refl _) h5) (fun _=>fin_pure (Nat.le_refl _) h5)) fun c n h6 h7=>fin_mk (by omega) h7
theorem recv_finQ (hw:WT ts) (hi:i<ts.length) (h0:(tokAt ts i).k≠7):FineQ ζ ts (i+1) (recvP ts) i b:=by
  unfold recvP;have h1:=hw.nxt i hi h0;refine fin_next (fin_name hw h1 fun _ h2=>fin_from (fin_take hw h2 (fun _ h3=>?_) (fun _=>?_)))
  · refine fin_name hw h3 fun _ h4=>fin_bind (m:=i+1) (fin_opt (fin_mk (by omega) h4) (fin_pure (by omega) h4)) fun t j h5 h6=>?_
    exact fin_need hw h6 fun _ h7=>fin_mk (by omega) h7
  · refine fin_name hw h2 fun _ h4=>fin_bind (m:=i+1) (fin_opt (fin_mk (by omega) h4) (fin_pure (by omega) h4)) fun t j h5 h6=>?_
    exact fin_need hw h6 fun _ h7=>fin_mk (by omega) h7
theorem tparams_fin (hw:WT ts) (hG:GFQ ζ ts G lo) (hl:lo≤i) (hi:i<ts.length) (h0:(tokAt ts i).k≠7):FineQ ζ ts (i+1) (tparamsP ts G) i b:=by
  unfold tparamsP;have h1:=hw.nxt i hi h0;refine fin_next (fin_bind (fin_list hw (i+1) (fun u j hj h=>plain_fin (typeParam_fin hw hG (by omega) h)) _ _ _ (i+1) (Nat.le_refl _) h1 (by omega)) fun l j h2 h3=>?_);exact fin_need hw h3 fun _ h4=>fin_mk (by omega) h4
theorem function_fin (hw:WT ts) (hG:GFQ ζ ts G lo) (hl:lo≤i) (hi:i<ts.length) (h0:(tokAt ts i).k≠7):FineQ ζ ts (i+1) (functionP ts G) i b:=by
  unfold functionP;have h1:=hw.nxt i hi h0
  have tail:∀ (r n t:No) j,i<j→j<ts.length→FineQ ζ ts (i+1) (do
      let a ← paramsP ts G
      let q ← resultsP ts G
      let c ← blockP ts G
      madeP ts 3 (tokAt ts i).fr ⟨#[]⟩ [r,n,t,a,q,c]) j b:=fun r n t j h2 h3=>
    fin_bind (params_fin hw hG (by omega) h3) fun a k h4 h5=>fin_bind (results_fin hw hG (by omega) h5) fun q l h6 h7=>fin_bind (block_fin hw hG (by omega) h7) fun c o h8 h9=>fin_mk (by omega) h9
  refine fin_next (fin_is (fin_bind (m:=i+1) (fin_ite (fun h=>(recv_finQ hw h1 (one_n7 h)).less (by omega)) fun _=>fin_pure (Nat.le_refl _) h1) fun r j h2 h3=>?_));refine fin_name hw h3 fun _ h4=>fin_is (fin_bind (m:=i+1) (fin_ite (fun h=>(tparams_fin hw hG (by omega) h4 (one_n7 h.2)).less (by omega)) fun _=>fin_pure (by omega) h4) fun t k h5 h6=>tail r _ t k (by omega) h6)
theorem decl_fin (hw:WT ts) (hG:GFQ ζ ts G lo) (hl:lo≤i) (hi:i<ts.length):FineQ ζ ts (i+1) (declP ts G) i b:=by
  unfold declP;refine fin_now (fin_ite (fun h=>function_fin hw hG hl hi (one_n7 h)) fun _=>fin_ite (fun h=>variable_fin hw hG hl hi (one_n7 h)) fun _=>fin_ite (fun h=>constant_fin hw hG hl hi (one_n7 h)) fun _=>fin_ite (fun h=>?_) fun _=>fin_bad);have h1:=hw.nxt i hi (one_n7 h);exact fin_step (fin_name hw h1 fun _ h2=>fin_bind (typ_fin hw hG (by omega) h2) fun x j h3 h4=>fin_mk (by omega) h4)
theorem imports_finQ (hw:WT ts):∀ (f:Nat) (l:List No) (to:Int) (i:Nat),i<ts.length→ts.length<f+i→FineQ ζ ts i (importsL ts f l to) i b
  | 0,_,_,i,h,h'=>by omega
  | f+1,l,to,i,h,h'=>by
    unfold importsL;refine fin_isI (fun h0=>?_) (fun _=>fin_pure (Nat.le_refl _) h);have h1:=hw.nxt i h (one_n7 h0);refine fin_next (fin_now (fin_ite (fun hk=>?_) fun _=>fin_bad));have h2:=hw.nxt _ h1 (by rw [hk];decide);exact fin_step (fin_made (fin_to (fin_semi hw h2 fun _ h3=>(imports_finQ hw f _ _ (i+1+1+1) h3 (by omega)).less (by omega))))
theorem decls_fin (hw:WT ts) (hG:GFQ ζ ts G lo):∀ (f:Nat) (l:List No) (to:Int) (i:Nat),lo≤i→i<ts.length→ts.length<f+i→FineQ ζ ts i (declsL ts G f l to) i b
  | 0,_,_,i,_,h,h'=>by omega
  | f+1,l,to,i,hl,h,h'=>by
    unfold declsL;refine fin_now (fin_ite (fun _=>fin_pure (Nat.le_refl _) h) fun _=>?_);exact fin_bind (decl_fin hw hG hl h) fun x j h1 h2=>fin_to (fin_semi hw h2 fun _ h3=>(decls_fin hw hG f _ _ (j+1) (by omega) h3 (by omega)).less (by omega))
theorem file_fin (hw:WT ts) (hG:GFQ ζ ts G lo) (hl:lo≤i) (hi:i<ts.length):FineQ ζ ts (i+1) (fileP ts G) i b:=by
  unfold fileP;refine fin_need hw hi fun _ h1=>fin_name hw h1 fun _ h2=>fin_to (fin_semi hw h2 fun _ h3=>?_);refine fin_bind (imports_finQ hw _ _ _ _ h3 (by omega)) fun a j h4 h5=>?_;exact fin_bind (decls_fin hw hG _ _ _ j (by omega) h5 (by omega)) fun c k h6 h7=>fin_pure (by omega) h7
theorem alone_fin (hw:WT ts) {m:Nat} {x:PM No} (h:FineQ ζ ts m x i b):FineQ ζ ts m (aloneP ts x) i b:=by
  unfold aloneP;refine fin_bind h fun n j h1 h2=>fin_now (fin_ite (fun hk=>?_) fun _=>fin_ite (fun _=>fin_pure h1 h2) fun _=>fin_bad);have h3:=hw.nxt j h2 (by rw [hk];decide);exact fin_step (fin_now (fin_ite (fun _=>fin_pure (by omega) h3) fun _=>fin_bad))
end
abbrev Fine (ts:List Tk) {α:Type} (m:Nat) (x:PM α) (i:Nat) (b:Bool):Prop:=FineQ False ts m x i b
abbrev GF (ts:List Tk) (G:Gr) (lo:Nat):Prop:=GFQ False ts G lo
theorem typeName_fin {ts:List Tk} {i:Nat} {b:Bool} (hw:WT ts) (hi:i<ts.length):Fine ts (i+1) (typeNameP ts) i b:=typeName_finQ hw hi
theorem recv_fin {ts:List Tk} {i:Nat} {b:Bool} (hw:WT ts) (hi:i<ts.length) (h0:(tokAt ts i).k≠7):Fine ts (i+1) (recvP ts) i b:=recv_finQ hw hi h0
theorem imports_fin {ts:List Tk} {b:Bool} (hw:WT ts) (f:Nat) (l:List No) (to:Int) (i:Nat) (h:i<ts.length) (h':ts.length<f+i):Fine ts i (importsL ts f l to) i b:=imports_finQ hw f l to i h h'
theorem gr_fin {ts:List Tk} (hw:WT ts) (n lo:Nat):GF ts (gr ts n) lo:=gr_finQ hw n lo fun h=>h.elim
abbrev Str.WT (ts:List Tk):Prop:=Go.Proofs.YtfmgdmeopakdaaaGreatDoor.WT ts
theorem Str.gr_fin {ts:List Tk} (hw:WT ts) (n lo:Nat) (h:ts.length≤n+lo+1):GFQ True ts (gr ts n) lo:=gr_finQ hw n lo fun _=>h
theorem Str.file_fin {ts:List Tk} {G:Gr} {lo i:Nat} {b:Bool} (hw:WT ts) (hG:GFQ True ts G lo) (hl:lo≤i) (hi:i<ts.length):(∃ r,fileP ts G (i,b)=some r)∧True:=⟨(Go.Proofs.YtfmgdmeopakdaaaGreatDoor.file_fin hw hG hl hi).1 trivial,trivial⟩
theorem Str.expr_fin {ts:List Tk} {G:Gr} {lo i:Nat} {b:Bool} (hw:WT ts) (hG:GFQ True ts G lo) (hl:lo≤i) (hi:i<ts.length):(∃ r,exprP ts G (i,b)=some r)∧True:=⟨(Go.Proofs.YtfmgdmeopakdaaaGreatDoor.expr_fin hw hG hl hi).1 trivial,trivial⟩
end Go.Proofs.YtfmgdmeopakdaaaGreatDoor
