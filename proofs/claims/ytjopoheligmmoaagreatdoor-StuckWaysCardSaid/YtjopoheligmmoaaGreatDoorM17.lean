import Derived.Test.YtjopoheligmmoaaGreatDoorM9
import Derived.ProofKit
import Derived.SizedLaws
import Derived.JoinedCond
namespace Go.cw
open Go.RowKit Go.ChangeShapes Go.WideShapes Go.ChangeAt
def iM (ns:List Nat):Prop:=∀n∈ns,n<=reachBytes
theorem kN {a b:List Nat}:iM (a++b)↔iM a/\iM b:=by
 simp only[iM,List.mem_append]
 exact⟨fun h=>⟨fun n hn=>h n (.inl hn),fun n hn=>h n (.inr hn)⟩,fun h n hn=>hn.elim (h.1 n) (h.2 n)⟩
def emp:Nat->Prop:=fun _=>False
def fC (P:Program) (t:TypeId) {α:Type} (cells:α->List AV) (ok:α->Prop):Prop:=
 ∀(D:Type) (enc:TypeId×Value->D) (w:World) (n:Nat) (cs:List Value) (x:DataW D×List MemPlace),DataW.trod enc P w 0 (fun _=>true) true n t cs=some x->iM (x.1.weights P t)->
  ∃a,cu (base w emp) (cells a) cs/\ok a
theorem fC.map {P:Program} {t:TypeId} {α β:Type} {cells:α->List AV} {ok:α->Prop} {cells':β->List AV} {ok':β->Prop} (g:α->β) (h:fC P t cells ok) (hc:∀a,ok a->cells' (g a)=cells a) (ho:∀a,ok a->ok' (g a)):fC P t cells' ok':=by
 intro D enc w n cs x hx hr
 obtain⟨a,h1,h2⟩:=h D enc w n cs x hx hr
 exact⟨g a,by rw[hc a h2];exact h1,ho a h2⟩
theorem ri {P:Program} {t:TypeId} {k:IntKind} (ht:P.underlying t=some (.int k)):fC P t (fun n:Int=>[.sc (.int k n)]) (fun n=>(Lit.int k n).wf=true):=by
 intro D enc w n cs x hx _
 obtain⟨z,rfl,_,hz⟩:=DataW.trod_int ht hx
 exact⟨z,by rw[cu];exact⟨_,[],rfl,by rw[VR],by rw[cu]⟩,hz⟩
theorem D0 {P:Program} {t:TypeId} (ht:P.underlying t=some .bool):fC P t (fun b:Bool=>[.sc (.bool b)]) (fun _=>True):=by
 intro D enc w n cs x hx _
 obtain⟨z,rfl,_⟩:=DataW.trod_bool ht hx
 exact⟨z,by rw[cu];exact⟨_,[],rfl,by rw[VR],by rw[cu]⟩,trivial⟩
theorem q8 {P:Program} {t:TypeId} (ht:P.underlying t=some .string):fC P t (fun s:ByteArray=>[.sc (.string s)]) (fun s=>s.size<=reachBytes):=by
 intro D enc w n cs x hx hr
 obtain⟨z,rfl,rfl,hz⟩:=DataW.trod_string ht hx
 refine⟨z,by rw[cu];exact⟨_,[],rfl,by rw[VR],by rw[cu]⟩, ?_⟩
 simpa[DataW.weights,iM] using hr
def R7 (ag:Bool) (cs:List AV):AV:=if ag then .agg cs else cs.headD .any
theorem nK {α β:Type} {R:α->β->Prop} [Inhabited β]:∀(l:List α),(∀a∈l,∃b,R a b)->∃m:List β,m.length=l.length/\∀(i:Nat) (a:α) (b:β),l[i]?=some a->m[i]?=some b->R a b
 |[],_=>⟨[],rfl,by simp⟩
 |a::l,h=>by
  obtain⟨b,hb⟩:=h a (by simp)
  obtain⟨m,h1,h2⟩:=nK l fun x hx=>h x (by simp[hx])
  refine⟨b::m,by simp[h1],fun i x y hx hy=> ?_⟩
  cases i with
  |zero=>simp at hx hy;subst hx;subst hy;exact hb
  |succ i=>exact h2 i x y (by simpa using hx) (by simpa using hy)
theorem nu {D:Type} {P:Program} {e:TypeId}:∀{ds:List (DataW D)} {d:DataW D},d∈ds->iM (DataW.weightsAll P e ds)->iM (d.weights P e)
 |d0::ds,d,hm,h=>by
  simp only[DataW.weightsAll] at h
  rw[kN] at h
  rcases List.mem_cons.1 hm with rfl|hm
  ·exact h.1
  ·exact nu hm h.2
theorem nb {P:Program} {t e:TypeId} {α:Type} [Inhabited α] {cells:α->List AV} {ok:α->Prop} {ag:Bool} {sz:Nat} (d:AV) (ht:P.underlying t=some (.slice e)) (hsz:P.cellsOf e=sz) (hpos:0<sz)
 (he:fC P e cells ok) (hone:∀a,jM (cells a)=true) (hlen:∀a,ok a->(cells a).length=sz) (hag:ag=false->sz=1):
 fC P t (fun l:List α=>[.im sz d (l.map fun a=>R7 ag (cells a))]) (fun l=>(∀a∈l,ok a)/\l.length * P.bytesOf e<=reachBytes):=by
 intro D enc w n cs x hx hr
 rcases DataW.trod_slice ht hx with⟨rfl,rfl⟩|⟨a,len,cap,elems,rest,m,_,rfl,rfl,hb,hl,hm,hlen',hel,_,_⟩
 ·refine⟨[], ?_,by simp,by simp⟩
  rw[cu]
  refine⟨_,[],rfl, ?_,by rw[cu]⟩
  rw[VR]
  exact⟨none,0,rfl,by simp, .inl rfl⟩
 ·simp only[DataW.weights,ht] at hr
  have hr1:(elems.length+rest.length) * P.bytesOf e<=reachBytes:=by
   have:=hr ((elems.length+rest.length) * P.bytesOf e) (by simp)
   exact this
  have hr2:iM (DataW.weightsAll P e (elems.map (·.1))):=fun n hn=>hr n (by simp[hn])
  -- each element by itself
  have each:∀i,i<len->∃(cs':List Value) (y:DataW D×List MemPlace),elems[i]?=some y/\w.cells? 0 (a.add (i * sz)) sz=some cs'/\DataW.trod enc P w 0 (fun _=>true) true m e cs'=some y:=by
   intro i hi
   have h1:=hel i hi
   rw[List.getElem?_eq_getElem (by omega)] at h1
   rw[hsz] at h1
   simp only[Option.bind_eq_some_iff] at h1
   obtain⟨cs',h2,h3⟩:=h1
   exact⟨cs',_,List.getElem?_eq_getElem (by omega),h2,h3⟩
  have each2:∀i,i<len->∃(al:α),ok al/\∃cs',w.cells? 0 (a.add (i * sz)) sz=some cs'/\cu (base w emp) (cells al) cs':=by
   intro i hi
   obtain⟨cs',y,h1,h2,h3⟩:=each i hi
   obtain⟨al,h4,h5⟩:=he D enc w m cs' y h3 (nu (ds:=elems.map (·.1)) (by
    obtain⟨h,rfl⟩:=List.getElem?_eq_some_iff.1 h1
    exact List.mem_map.2 ⟨_,List.getElem_mem h,rfl⟩) hr2)
   exact⟨al,h5,cs',h2,h4⟩
  obtain⟨l,hll,hlr⟩:=nK (List.range len) (R:=fun i (al:α)=>ok al/\∃cs',w.cells? 0 (a.add (i * sz)) sz=some cs'/\cu (base w emp) (cells al) cs') (fun i hi=>by
   obtain⟨al,h⟩:=each2 i (by simpa using hi)
   exact⟨al,h⟩)
  simp only[List.length_range] at hll
  have hget:∀i al,l[i]?=some al->ok al/\∃cs',w.cells? 0 (a.add (i * sz)) sz=some cs'/\cu (base w emp) (cells al) cs':=by
   intro i al hi
   have hil:=(List.getElem?_eq_some_iff.1 hi).1
   exact hlr i i al (by rw[List.getElem?_range (by omega)]) hi
  refine⟨l, ?_,fun al hal=> ?_, ?_⟩
  ·rw[cu]
   refine⟨_,[],rfl, ?_,by rw[cu]⟩
   rw[VR]
   refine⟨some a,cap,by simp[hll],by simpa[hll] using hl, ?_⟩
   by_cases h0:len=0
   ·left;rw[List.map_eq_nil_iff];exact List.eq_nil_of_length_eq_zero (by omega)
   ·right
    have hspot:a.spot=none:=by
     obtain⟨al,_,cs',h2,_⟩:=each2 0 (by omega)
     obtain⟨_,h3,h4⟩:=World.cells?_some h2
     have h5:=h4 0 hpos
     rw[List.getElem?_eq_getElem (by omega)] at h5
     simp only[Nat.zero_mul] at h5
     have:(a.add 0).add 0=a:=by simp[Addr.add]
     rw[this] at h5
     cases hs:a.spot with
     |none=>rfl
     |some s=>
      unfold World.cell? at h5
      rw[hs] at h5
      split at h5<;>simp at h5
    obtain⟨blk,o,spot⟩:=a
    simp only at hspot
    subst hspot
    refine⟨blk,o,rfl,hpos,by rw[nH];exact fun h=>h,kV fun i hi=> ?_⟩
    simp only[List.length_map] at hi
    have hg:l[i]?=some l[i]:=List.getElem?_eq_getElem hi
    obtain⟨hok,cs',h2,h3⟩:=hget i _ hg
    obtain⟨_,h4,h5⟩:=World.cells?_some h2
    have hav:(l.map fun a=>R7 ag (cells a)).getD i .any=R7 ag (cells l[i]):=by simp[List.getD,hi]
    have hadd:∀j,((⟨blk,o,none⟩:Addr).add (i * sz)).add j=⟨blk,o+i * sz+j,none⟩:=fun j=>by
     unfold Addr.add
     by_cases h6:i * sz=0<;>by_cases h7:j=0<;>simp[h6,h7]
    have hones:∀v∈cs',v.oneCell'=true:=h3.N0 (hone _)
    have hcl:=hlen _ hok
    have qq:=h3.length
    rw[hav]
    cases ag with
    |true=>
     refine⟨.agg cs'.toArray,⟨by simp[Value.cells,h4],fun j hj=> ?_,fun j u hu=> ?_⟩, ?_⟩
     ·have:=h5 j hj;rw[hadd] at this;simpa[Value.cells,base] using this
     ·simp only[Value.cells] at hu
      refine hones u ?_
      have:cs'[j]?=some u:=by simpa using hu
      exact List.mem_of_getElem? this
     ·simp only[R7,if_true]
      rw[VR]
      exact⟨_,rfl,by simpa using h3⟩
    |false=>
     have h1:=hag rfl
     subst h1
     match cs',h4,hones,h3,h5 with
     |[v],_,hones,h3,h5=>
      match hcc:cells l[i],hcl with
      |[y],_=>
       rw[hcc] at h3
       rw[cu] at h3
       obtain⟨v',vs',hvv,h6,_⟩:=h3
       simp only[List.cons.injEq] at hvv
       obtain⟨rfl,_⟩:=hvv
       have hc1:=cells_one (hones v (by simp))
       refine⟨v,⟨by simp[hc1],fun j hj=> ?_,fun j u hu=> ?_⟩, ?_⟩
       ·have:j=0:=by omega
        subst this
        have:=h5 0 hj
        rw[hadd] at this
        simpa[hc1,base] using this
       ·rw[hc1] at hu
        have:u=v:=by
         cases j<;>simp at hu
         exact hu.symm
        subst this
        exact hones u (by simp)
       ·simpa[R7] using h6
  ·obtain⟨i,hi,rfl⟩:=List.mem_iff_getElem.1 hal
   exact(hget i _ (List.getElem?_eq_getElem hi)).1
  ·refine Nat.le_trans (Nat.mul_le_mul_right _ ?_) hr1
   rw[hll,<-hlen'];omega
def xU (P:Program) (fs:List Field) (off total:Nat) {α:Type} (cells:α->List AV) (ok:α->Prop):Prop:=
 ∀(D:Type) (enc:TypeId×Value->D) (w:World) (n:Nat) (cs:List Value) (xs:List (DataW D×List MemPlace)),cs.length=total->xs.length=fs.length->
  (∀(i:Nat) (f:Field),fs[i]?=some f->DataW.trod enc P w 0 (fun _=>true) true n f.type ((cs.drop f.offset).take (P.cellsOf f.type))=xs[i]?)->iM (DataW.weightsEach P (fs.map (·.type)) (xs.map (·.1)))->
  ∃a,cu (base w emp) (cells a) (cs.drop off)/\ok a
theorem kL {P:Program} {off:Nat}:xU P [] off off (fun _:Unit=>[]) (fun _=>True):=by
 intro D enc w n cs xs h _ _ _
 exact⟨(),by rw[cu];exact List.drop_eq_nil_of_le (by omega),trivial⟩
theorem dO {P:Program} {f:Field} {fs:List Field} {off total k:Nat} {α β:Type} {c1:α->List AV} {o1:α->Prop} {c2:β->List AV} {o2:β->Prop} (ho:f.offset=off) (hk:P.cellsOf f.type=k)
 (h1:fC P f.type c1 o1) (h2:xU P fs (off+k) total c2 o2):xU P (f::fs) off total (fun p:α×β=>c1 p.1++c2 p.2) (fun p=>o1 p.1/\o2 p.2):=by
 intro D enc w n cs xs hl hx hg hr
 cases xs with
 |nil=>simp at hx
 |cons x xs=>
  simp only[List.map_cons,DataW.weightsEach] at hr
  rw[kN] at hr
  have h0:=hg 0 f rfl
  rw[ho,hk] at h0
  obtain⟨a,ha,oa⟩:=h1 D enc w n _ x (by simpa using h0) hr.1
  obtain⟨b,hb,ob⟩:=h2 D enc w n cs xs hl (by simpa using hx) (fun i g hi=>by simpa using hg (i+1) g (by simpa using hi)) hr.2
  refine⟨(a,b), ?_,oa,ob⟩
  have e:cs.drop off=(cs.drop off).take k++cs.drop (off+k):=by
   rw[<-List.drop_drop,List.take_append_drop]
  rw[e]
  exact cu.append hb ha
theorem iw {P:Program} {t:TypeId} {fs:Array Field} {k:Nat} {α:Type} {cells:α->List AV} {ok:α->Prop} (ht:P.underlying t=some (.struct fs)) (hk:P.cellsOf t=k) (h:xU P fs.toList 0 k cells ok):fC P t cells ok:=by
 intro D enc w n cs x hx hr
 obtain⟨xs,m,_,rfl,hl,hlen,hf⟩:=DataW.trod_struct ht hx
 simp only[DataW.weights,ht] at hr
 obtain⟨a,h1,h2⟩:=h D enc w m cs xs (by omega) (by simpa using hlen) (fun i f hi=>hf i f (by simpa using hi)) hr
 exact⟨a,by simpa using h1,h2⟩
def pj (P:Program) (ts:List TypeId) {α:Type} (args:α->List AV) (ok:α->Prop):Prop:=
 ∀(D:Type) (enc:TypeId×Value->D) (w:World) (vs:List Value) (ds:List (DataW D)) (ps:List MemPlace),DataW.TrodAll enc P w 0 (fun _=>true) true ts vs ds ps->iM (DataW.weightsEach P ts ds)->(∀(j:Nat) t v,ts[j]?=some t->vs[j]?=some v->∃b,Value.okWide P w .any b t v)->
  ∃a,cu (base w emp) (args a) vs/\ok a
theorem yG {P:Program}:pj P [] (fun _:Unit=>[]) (fun _=>True):=by
 intro D enc w vs ds ps h _ _
 obtain⟨rfl,rfl,rfl⟩:=trodAll_nil h
 exact⟨(),by rw[cu],trivial⟩
theorem oy {P:Program} {t:TypeId} {ts:List TypeId} {ag:Bool} {α β:Type} {c1:α->List AV} {o1:α->Prop} {c2:β->List AV} {o2:β->Prop} (hag:gX P t=some ag) (h1:fC P t c1 o1) (hone:ag=false->∀a,o1 a->(c1 a).length=1) (h2:pj P ts c2 o2):
 pj P (t::ts) (fun p:α×β=>R7 ag (c1 p.1)::c2 p.2) (fun p=>o1 p.1/\o2 p.2):=by
 intro D enc w vs ds ps h hr hw
 obtain⟨v,vs',d,ds',p,q,rfl,rfl,rfl,hd,hrest⟩:=trodAll_cons h
 obtain⟨n,hd⟩:=hd
 simp only[DataW.weightsEach] at hr
 rw[kN] at hr
 obtain⟨a,ha,oa⟩:=h1 D enc w n _ _ hd hr.1
 obtain⟨b,hb,ob⟩:=h2 D enc w vs' ds' q hrest hr.2 (fun j t v h1 h2=>hw (j+1) t v (by simpa using h1) (by simpa using h2))
 refine⟨(a,b), ?_,oa,ob⟩
 rw[cu]
 refine⟨v,vs',rfl, ?_,hb⟩
 obtain⟨b0,hok⟩:=hw 0 t v rfl rfl
 unfold Value.okWide at hok
 unfold gX at hag
 cases ag with
 |true=>
  have:∃cs,v= .agg cs:=by
   split at hok
   ·obtain⟨cs,rfl,_⟩:=hok;exact⟨cs,rfl⟩
   ·obtain⟨cs,rfl,_⟩:=hok;exact⟨cs,rfl⟩
   ·rename_i hn1 hn2
    exfalso
    split at hag
    ·rename_i fs hu;exact hn1 _ hu
    ·rename_i k e hu;exact hn2 _ _ hu
    ·simp at hag
    ·simp at hag
  obtain⟨cs,rfl⟩:=this
  simp only[R7,if_true]
  rw[VR]
  exact⟨cs,rfl,ha⟩
 |false=>
  have hl:=hone rfl a oa
  match hc:c1 a,hl with
  |[y],_=>
   rw[hc] at ha
   rw[cu] at ha
   obtain⟨v',vs'',hvv,h6,h7⟩:=ha
   rw[cu] at h7
   subst h7
   have hcell:v.cells.toList=[v']:=hvv
   have hv:v=v':=by
    cases v<;>simp only[Value.cells,List.cons.injEq,and_true] at hcell<;>try exact hcell
    exfalso
    rename_i cs
    split at hok
    ·rename_i fs hu;rw[hu] at hag;simp at hag
    ·rename_i hu;rw[hu] at hag;simp at hag
    ·simp only[Cell.okWide,Cell.ok] at hok
     repeat' (split at hok)
     all_goals first|exact hok|(exact hok.elim)|contradiction|simp_all
   simp only[R7,Bool.false_eq_true,if_false,List.headD_cons]
   rw[hv]
   exact h6
theorem wH {H:Type} {enc:TypeId×Value->H} {P:Program} (hl:laidOutB P=true) {W W':World} {sp:Nat->Bool}:∀{ts:List TypeId} {vs:List Value} {ds:List (DataW H)} {ps:List MemPlace},
 DataW.TrodAll enc P W 0 (fun _=>true) true ts vs ds ps->(∀t∈ts,P.readableRec t=true/\t<P.types.size)->(∀p∈ps,p.block<W.heap.size)->Below W.heap.size W W'->(∀p∈ps,sp p.block=true)->DataW.TrodAll enc P W' 0 sp true ts vs ds ps
 |[],_,_,_,h,_,_,_,_=>by obtain⟨rfl,rfl,rfl⟩:=trodAll_nil h;exact rfl
 |t::ts,_,_,_,h,ht,hp,hb,hs=>by
  obtain⟨v,vs,d,ds,p,q,rfl,rfl,rfl,h1,h2⟩:=trodAll_cons h
  refine⟨p,q,WideElems.Trod_stays hl (ht t (by simp)).1 (ht t (by simp)).2 h1 (fun x hx=>hb.same (hp x (by simp[hx]))) (fun x hx=>hs x (by simp[hx])), ?_,rfl⟩
  exact wH hl h2 (fun t ht'=>ht t (by simp[ht'])) (fun x hx=>hp x (by simp[hx])) hb (fun x hx=>hs x (by simp[hx]))
theorem xy {D:Type} {enc:TypeId×Value->D} {P:Program} {f:FuncId} {fn:Func} {s:ChangeSpec} {tb:TypeId} {ts:List TypeId} {α:Type} {args:α->List AV} {ok:α->Prop} (hl:laidOutB P=true) (hp:fn.params.toList=ts) (hvars:s.vars=[]) (htb:P.underlying tb=some .bool) (hres:fn.resultTypes=#[tb])
 (hspec:∀ds:List (DataW D),ds.length=ts.length->s.fn D ds={ results:=[.lit (.bool true)],args:=ds }) (hts:∀t∈ts,P.readableRec t=true/\t<P.types.size) (hop:pj P ts args ok)
 (hpure:∀a,ok a->Pure P f (args a) (fun r=>r= .sc (.bool true))) {base0:Nat} {W:World} {vs:Array Value} {ds gs:List (DataW D)} {before:List MemPlace}
 (hval:∀(j:Nat) t v,fn.params[j]?=some t->vs[j]?=some v->Value.okWide P W .any base0 t v) (hW:DataW.Whole enc P fn.params.toList s.vars false W vs.toList ds gs before)
 (hr:(DataW.weightsEach P (fn.params.toList++s.plain.varTypes P) (ds++gs)).all (·<=reachBytes)=true)
 (hfit:yg W emp:=by exact⟨fun _ h=>h.elim,fun _ h=>by cases h⟩):
 Calls P f vs W fun e W'=>∃v,e= .returned v/\s.post enc P fn false true false false W vs v W':=by
 have hW':=hW
 obtain⟨p,q,hA,hV,rfl,hfz,hnd⟩:=hW
 rw[hvars] at hV
 obtain⟨rfl,rfl⟩:=trodVars_none hV
 rw[hp] at hA
 have hlen:ds.length=ts.length:=by
  have:∀{ts:List TypeId} {vs:List Value} {ds:List (DataW D)} {ps:List MemPlace},DataW.TrodAll enc P W 0 (fun _=>true) true ts vs ds ps->ds.length=ts.length:=by
   intro ts
   induction ts with
   |nil=>intro vs ds ps h;obtain⟨rfl,rfl,rfl⟩:=trodAll_nil h;rfl
   |cons t ts ih=>intro vs ds ps h;obtain⟨v,vs,d,ds,p,q,rfl,rfl,rfl,h1,h2⟩:=trodAll_cons h;simp[ih h2]
  exact this hA
 have hr':iM (DataW.weightsEach P ts ds):=by
  intro n hn
  rw[List.all_eq_true] at hr
  have h0:s.plain.varTypes P=[]:=by
   have:s.plain.vars=[]:=hvars
   simp[DataSpec.varTypes,this]
  have:=hr n (by rw[hp,h0];simpa using hn)
  simpa using this
 obtain⟨a,ha,oa⟩:=hop D enc W vs.toList ds p hA hr' (fun j t v h1 h2=>⟨base0,hval j t v (by rw[<-hp] at h1;simpa using h1) (by simpa using h2)⟩)
 have hcall:=(hpure a oa).2 emp W vs.toList hfit ha
 simp only[List.append_nil] at hW'
 have hlt:∀x∈p,x.block<W.heap.size:=fun x hx=>by simpa using hW'.lt x hx
 refine hcall.mono fun e W' hh=> ?_
 obtain⟨v,r,rfl,rfl,_,hvr,hb⟩:=hh
 rw[VR] at hvr
 subst hvr
 refine⟨_,rfl, ?_⟩
 have hfn:=hspec ds hlen
 have hargs:∀sp:Nat->Bool,(∀x∈p,sp x.block=true)->DataW.TrodAll enc P W' 0 sp true fn.params.toList vs.toList (s.fn D (ds++[])).args p:=fun sp hs=>by
  rw[List.append_nil,hfn,hp]
  exact wH hl hA hts hlt hb hs
 have hresA:∀(b:Nat) (sp:Nat->Bool) (hd:Bool),DataW.TrodAll enc P W' b sp hd fn.resultTypes.toList ((Value.bool true).resultList fn.resultTypes.size) (s.fn D (ds++[])).results []:=fun b sp hd=>by
  rw[List.append_nil,hfn,hres]
  exact trodAll_mk1 (shut_bool htb true)
 have hvarsA:∀sp:Nat->Bool,DataW.TrodVars enc P W' sp s.vars (s.fn D (ds++[])).vars []:=fun sp=>by
  rw[List.append_nil,hfn,hvars]
  exact rfl
 refine⟨ds,[],p,[],p,[],hW',hresA _ _ _,hargs _ (fun x hx=>by simpa using hlt x hx),hvarsA _,World.keptBut_mono (fun x hx=>⟨hx, ?_⟩) (hb.frame (·∈p)),fun _=> ?_⟩
 ·first|exact hx|exact .inl hx|exact .inr hx|(simp;exact hx)
 ·refine⟨ok_one hres rfl (okWide_bool_mk htb true),_,_,[]++p,⟨[]++p,[],trodAll_append (hargs (fun _=>true) (fun _ _=>rfl)) (hresA _ _ _),hvarsA _,by simp,fun b off hx=> ?_,fun h=>by cases h⟩,fun x hx _=>by simpa using hx⟩
  have hx':MemPlace.cell b off∈p:=by simpa using hx
  rw[hb.frozen (hlt _ hx')]
  exact hfz b off (by simpa using hx')
end Go.cw
