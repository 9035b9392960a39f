/- Parts of one proof. -/
import Derived.Test.YtfmgdmeopakdaaaGreatDoorMP1
import Derived.Test.YtfmgdmeopakdaaaGreatDoorRows
import Derived.ProofKit
import Derived.SizedLaws
import Derived.WalkKit
import Derived.Test.YtfmgdmeopakdaaaGreatDoorMS1
import Derived.OpenShut
import Derived.LaidMore
import Derived.Lay
import Derived.SevenTiedAt
import Derived.Stop.Joined
import Derived.ChangeMaps5
import Derived.Carry
import Derived.Lib.LaidU8
import Derived.PinnedBridge
import Derived.Shelf.Vars
set_option linter.unusedVariables false
set_option linter.unusedSimpArgs false
namespace Go.Proofs.YtfmgdmeopakdaaaGreatDoor
open Go Go.RowKit Go.ChangeShapes Go.WideShapes Go.ChangeAt
theorem yW {w:World} {q:Addr} {v:Value} (h:w.cell? q=some v):q.spot=none:=by
  unfold World.cell? at h;split at h
  · split at h
    · cases h
    · rename_i hs;simpa using hs
  · cases h
theorem lt_of_cell {w:World} {q:Addr} {v:Value} (h:w.cell? q=some v):q.block<w.heap.size:=by
  rcases Nat.lt_or_ge q.block w.heap.size with fs | Eb
  · exact fs
  · unfold World.cell? at h;rw [Array.getElem?_eq_none Eb] at h;cases h
theorem add_plain {b o:Nat} (n:Nat):Addr.add ⟨b,o,none⟩ n=⟨b,o+n,none⟩:=by
  unfold Addr.add;split
  · rename_i h;subst h;rfl
  · rfl
def xO {α:Type} (Q:α→List Value→Prop):List α→List Value→Prop
  | [],cs=>cs=[]
  | t :: ts,cs=>∃ c1 c2,cs=c1 ++ c2∧Q t c1∧xO Q ts c2
theorem xO.snoc {α:Type} {Q:α→List Value→Prop} {y:α} {ds:List Value} (hy:Q y ds):∀ {ts:List α} {cs:List Value},xO Q ts cs→xO Q (ts ++ [y]) (cs ++ ds)
  | [],cs,h=>by simp only [xO] at h;subst h;exact ⟨ds,[],by simp,hy,rfl⟩
  | t :: ts,cs,h=>by
    obtain ⟨c1,c2,rfl,h1,h2⟩:=h;exact ⟨c1,c2 ++ ds,by simp,h1,xO.snoc hy h2⟩
theorem gather {α:Type} {Q:α→List Value→Prop} {w:World} {b o k:Nat}:∀ (n:Nat),(∀ i,i<n→∃ y cs,cs.length=k∧(∀ j,j<k→w.cell? ⟨b,o+(i * k+j),none⟩=cs[j]?)∧Q y cs)→
    ∃ ys xs,ys.length=n∧xs.length=n * k∧(∀ j u,xs[j]? = some u→w.cell? ⟨b,o+j,none⟩=some u)∧xO Q ys xs
  | 0,_=>⟨[],[],rfl,by simp,fun j u h=>by simp at h,rfl⟩
  | n+1,h=>by
    obtain ⟨ys,xs,h1,h2,h3,h4⟩:=gather n fun i hi=>h i (by omega);obtain ⟨y,cs,g1,g2,g3⟩:=h n (by omega);refine ⟨ys ++ [y],xs ++ cs,by simp [h1],by simp only [List.length_append,h2,g1];rw [Nat.add_mul,Nat.one_mul],fun j u hj=>?_,h4.snoc g3⟩;rcases Nat.lt_or_ge j xs.length with fs | Eb
    · rw [List.getElem?_append_left fs] at hj;exact h3 j u hj
    · rw [List.getElem?_append_right Eb] at hj
      have hl:j - xs.length<cs.length:=by
        rcases Nat.lt_or_ge (j - xs.length) cs.length with x | x
        · exact x
        · rw [List.getElem?_eq_none x] at hj;cases hj
      have:=g2 (j - xs.length) (by omega);rw [hj,show n * k+(j - xs.length)=j from by omega] at this;exact this
section
variable {H:Type} {enc:TypeId×Value→H} {P:Program} {w:World} {fuel:Nat} {held:Bool} {sp:Nat→Bool}
theorem ta {e:TypeId}:∀ {l:List (DataW H)} {d:DataW H},d ∈ l→∀ n ∈ d.weights P e,n ∈ DataW.weightsAll P e l
  | x :: l,d,hd,n,hn=>by
    simp only [DataW.weightsAll,List.mem_append];rcases List.mem_cons.1 hd with rfl | hd
    · exact .inl hn
    · exact .inr (ta hd n hn)
theorem read_slice {t e:TypeId} {k:Nat} {α:Type} {Q:α→List Value→Prop} {cs:List Value} {x:DataW H×List MemPlace} (ht:P.underlying t=some (.slice e)) (hk:P.cellsOf e=k) (vA:0<k)
    (h:DataW.trod enc P w 0 sp held fuel t cs=some x) (hw:∀ n ∈ x.1.weights P t,n≤reachBytes)
    (hq:∀ n cs y,fuel=n+1→DataW.trod enc P w 0 sp held n e cs=some y→(∀ n ∈ y.1.weights P e,n≤reachBytes)→∃ a,Q a cs) :
    ∃ v ys xs,cs=[v]∧Row w (fun b=>b<w.heap.size) k v ys.length xs∧xO Q ys xs∧ys.length * P.bytesOf e≤reachBytes:=by
  rcases DataW.trod_slice ht h with ⟨rfl,rfl⟩ | ⟨a,len,cap,elems,rest,n,hf,rfl,rfl,-,hlc,R0,hel,O2,-⟩
  · exact ⟨_,[],[],rfl,Row.nil_,rfl,by simp⟩
  · simp only [DataW.weights,ht,List.mem_cons,List.mem_append,List.length_map] at hw
    have hb:(elems.length+rest.length) * P.bytesOf e≤reachBytes:=hw _ (.inl rfl);have hlb:len * P.bytesOf e≤reachBytes:=Nat.le_trans (Nat.mul_le_mul_right _ (by omega)) hb;rw [hk] at O2;rcases Nat.eq_zero_or_pos len with rfl | hp
    · exact ⟨_,[],[],rfl,⟨by simp,_,cap,rfl,Nat.zero_le _,R0,(fun e=>by cases e),fun h=>absurd h (by simp)⟩,rfl,by simp⟩
    · obtain ⟨b,o,s⟩:=a
      have hs:s=none∧b<w.heap.size:=by
        have h0:=O2 0 hp;rw [List.getElem?_eq_getElem (by omega),Option.bind_eq_some_iff] at h0;obtain ⟨c0,g1,-⟩:=h0;obtain ⟨-,g2,g3⟩:=World.cells?_some g1;have g4:=g3 0 vA;rw [List.getElem?_eq_getElem (by omega)] at g4;simp only [Nat.zero_mul,Addr.add,if_true] at g4;exact ⟨yW g4,lt_of_cell g4⟩
      obtain ⟨rfl,hbl⟩:=hs
      obtain ⟨ys,xs,h1,h2,h3,h4⟩:=gather (Q:=Q) (w:=w) (b:=b) (o:=o) (k:=k) len fun i hi=>by
        have h0:=O2 i hi;rw [List.getElem?_eq_getElem (by omega),Option.bind_eq_some_iff] at h0;obtain ⟨c0,g1,g5⟩:=h0;obtain ⟨-,g2,g3⟩:=World.cells?_some g1;obtain ⟨y,hy⟩:=hq n c0 _ hf g5 (fun m hm=>hw m (.inr (.inl (ta (List.mem_map_of_mem (List.getElem_mem (by omega))) m hm))));refine ⟨y,c0,g2,fun j hj=>?_,hy⟩;have:=g3 j hj;rw [add_plain,add_plain,Nat.add_assoc] at this;exact this
      exact ⟨_,ys,xs,rfl,⟨by rw [h2,h1],some ⟨b,o,none⟩,cap,by rw [h1],by omega,R0,(fun e=>by cases e),fun _=>⟨b,o,rfl,hbl,h3⟩⟩,h4,by rw [h1];exact hlb⟩
end
theorem He:∀ {ys:List ByteArray} {xs:List Value},xO (fun (s:ByteArray) cs=>cs=[.string s]∧s.size≤PT) ys xs→xs=ys.map .string∧∀ s ∈ ys,s.size≤PT
  | [],xs,h=>⟨h,by simp⟩
  | y :: ys,xs,h=>by
    obtain ⟨c1,c2,rfl,⟨rfl,h1⟩,h2⟩:=h;obtain ⟨rfl,h3⟩:=He h2;exact ⟨rfl,fun s hs=>(List.mem_cons.1 hs).elim (fun e=>e ▸ h1) (h3 s)⟩
theorem EY:∀ {ys:List Bool} {xs:List Value},xO (fun (s:Bool) cs=>cs=[.bool s]) ys xs→xs=ys.map .bool
  | [],xs,h=>h
  | y :: ys,xs,h=>by
    obtain ⟨c1,c2,rfl,rfl,h2⟩:=h;rw [EY h2];rfl
end Go.Proofs.YtfmgdmeopakdaaaGreatDoor
namespace Go.Proofs.YtfmgdmeopakdaaaGreatDoor
open Go Go.RowKit Go.ChangeShapes Go.WideShapes Go.ChangeAt
theorem Tryz.own:ownKnob Tryz.prog.godebug=none:=by kernel_rfl
theorem Tryz.laidOut:laidOutB Tryz.prog=true:=by kernel_rfl
section
variable {H:Type} {enc:TypeId×Value→H} {P:Program}
theorem lY {f:Func} {s:ChangeSpec} {apart fresh uG again:Bool} {W W':World} {args:Array Value} {v:Value} {ds gs:List (DataW H)} {before pa pv:List MemPlace}
    (hW:DataW.Whole enc P f.params.toList s.vars apart W args.toList ds gs before)
    (iR:∀ (b:Nat) (sp:Nat→Bool) (hd:Bool),DataW.TrodAll enc P W' b sp hd f.resultTypes.toList (v.resultList f.resultTypes.size) (s.fn H (ds ++ gs)).results [])
    (Nv:∀ sp:Nat→Bool,(∀ p ∈ before,sp p.block=true)→DataW.TrodAll enc P W' 0 sp true f.params.toList args.toList (s.fn H (ds ++ gs)).args pa)
    (Nh:∀ sp:Nat→Bool,(∀ p ∈ before,sp p.block=true)→DataW.TrodVars enc P W' sp s.vars (s.fn H (ds ++ gs)).vars pv)
    (cq:before=pa ++ pv) (hb:Below W.heap.size W W')
    (aF:∀ (j:Nat) (t:TypeId) (r:Value),f.resultTypes[j]? = some t→(v.resultList f.resultTypes.size)[j]? = some r→Value.okWide P W' .any 0 t r) :
    s.post enc P f apart fresh uG again W args v W':=by
  have fs:∀ p ∈ before,p.block<W.heap.size:=fun p hp=>hW.lt p hp;(have hold:∀ p ∈ before,(fun b=>decide (b<W.heap.size)) p.block=true:=fun p hp=>by simpa using fs p hp);refine ⟨ds,gs,before,[],pa,pv,hW,iR _ _ _,Nv _ hold,Nh _ hold,World.keptBut_mono (fun p hp=>⟨hp,?_⟩) (hb.frame (· ∈ before)),fun _=>?_⟩
  · rw [cq,List.mem_append] at hp
    exact Or.inr hp
  · obtain ⟨_,_,_,_,_,hz,hn⟩:=hW
    refine ⟨aF,_,_,([] ++ pa) ++ pv,⟨[] ++ pa,pv,trodAll_append (Nv _ (fun _ _=>rfl)) (iR _ _ _),Nh _ (fun _ _=>rfl),rfl,?_,?_⟩,?_⟩
    · intro b off hp
      (have U1:MemPlace.cell b off ∈ before:=by rw [cq];simpa using hp);rw [hb.frozen (fs _ U1)];exact hz b off U1
    · intro ha
      have:=hn ha;rw [cq] at this
      simpa using this
    · intro p hp _
      rw [cq]
      simpa using hp
theorem stays {t:TypeId} (hl:laidOutB P=true) (hr:P.readableRec t=true) (ae:t<P.types.size) {W W':World} {v:Value} {d:DataW H} {ps:List MemPlace}
    (h:DataW.Trod enc P W 0 (fun _=>true) true t v d ps) (hb:Below W.heap.size W W') (fs:∀ x ∈ ps,x.block<W.heap.size) {sp:Nat→Bool} (r9:∀ x ∈ ps,sp x.block=true) :
    DataW.Trod enc P W' 0 sp true t v d ps:=
  WideElems.Trod_stays hl hr ae h (fun x hx=>hb.same (fs x hx)) r9
end
end Go.Proofs.YtfmgdmeopakdaaaGreatDoor
namespace Go.Proofs.YtfmgdmeopakdaaaGreatDoor
open Go Go.RowKit Go.ChangeShapes Go.WideShapes Go.ChangeAt
theorem mR {w:World} {g:Nat} {v:Value} (h:w.cell? ⟨g,0,none⟩=some v):g+1≤w.heap.size:=by
  apply Classical.byContradiction;intro hn;(have e:w.heap[g]? = none:=by simp;omega);simp [World.cell?,e] at h
theorem l6 {H:Type} {enc:TypeId×Value→H} {C:Checked} {os:Os} {f:FuncId} {fn:Func} {s:ChangeSpec} {conds:List PathCond} {apart fresh uG again:Bool} {X:World→Array Value→Prop}
    (hX:∀ (w w':World) (args:Array Value),w.heap=w'.heap→X w args→X w' args)
    (own:ownKnob C.prog.godebug=none) (started:os.Started) (Oz:C.prog.inits.idxOf? f=none) (O3:C.prog.funcs[f]? = some fn)
    (witness:∃ (w:World) (tape:Tape) (i:Input),w.os=os∧(w.forCall tape i).Shaped C.prog∧i.vars=[]∧Input.okWide C.prog (w.forCall tape i) .any w.heap.size f i∧
      ((s.pre enc C.prog fn conds apart (w.forCall tape i).memory i.args∧X (w.forCall tape i).memory i.args)∧sizedMet enc C.prog fn (OpenSpec.ofChange s) apart (w.forCall tape i).memory i.args)∧Assume.holds {} C.prog (lone (Frame.enter C.prog f i.args .normal) [] (w.forCall tape i)))
    (contract:∀ (W:World) (base:Nat) (args:Array Value) (ds gs:List (DataW H)) (before:List MemPlace),
      (∀ (j:Nat) t v,fn.params[j]? = some t→args[j]? = some v→Value.okWide C.prog W .any base t v)→
      DataW.Whole enc C.prog fn.params.toList s.vars apart W args.toList ds gs before→
      conds.all (PathCond.test C.prog ⟨fn.params.toList,ds,s.plain.varTypes C.prog,gs⟩)=true→
      (DataW.weightsEach C.prog (fn.params.toList ++ s.plain.varTypes C.prog) (ds ++ gs)).all (·≤reachBytes)=true→X W args→
      W.ShapedOpen C.prog→
      Calls C.prog f args W fun e W'=>∃ v,e = .returned v∧s.post enc C.prog fn apart fresh uG again W args v W') :
    ReturnsInHanded {} C os f .any (fun w args=>(s.pre enc C.prog fn conds apart w args∧X w args)∧sizedMet enc C.prog fn (OpenSpec.ofChange s) apart w args) (s.post enc C.prog fn apart fresh uG again):=by
  refine returnsInHanded_of_calls own started Oz witness ?_;intro w tape i _ zE _ aF ub _;obtain ⟨_,_,_,fn',Xb,_,_,_,_,ru⟩:=aF;have e:fn'=fn:=Option.some.inj (Xb.symm.trans O3);subst e;obtain ⟨⟨⟨ds,gs,before,hw,hc⟩,hx⟩,hz⟩:=ub;have hw':=DataW.Whole.of_heap (w':=w.forCall tape i) (by rfl) hw;refine (contract (w.forCall tape i) w.heap.size i.args ds gs before ru hw' hc (hz.weights hw) (hX _ _ _ (by rfl) hx) zE).mono fun e W' ⟨v,he,hp⟩=>?_;subst he;exact ChangeSpec.post_blind hp
end Go.Proofs.YtfmgdmeopakdaaaGreatDoor
