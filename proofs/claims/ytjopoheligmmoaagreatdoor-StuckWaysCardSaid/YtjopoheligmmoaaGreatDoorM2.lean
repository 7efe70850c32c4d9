import Derived.Test.YtjopoheligmmoaaGreatDoorM1
import Derived.Laws.Tables
import Derived.Great.BuildSlice
namespace Go.cw
open Go.RowKit
section
section
variable {P:Program} {o:Oper} {a:Act} {w0:World} {c:Cx} {id:Nat} {fr:Fr}
theorem kg {b:Nat} {ρ:Nat->Option (Nat×Nat×Nat)} {H:Nat->Option fH} {w:World} (h:dy w0 ⟨ρ,H,fun x=>c.U x\/x=b,w,c.M0⟩/\c.le ⟨ρ,H,fun x=>c.U x\/x=b,w,c.M0⟩) (hb:c.U b):
 dy w0 (j6 c id ρ H w)/\c.le (j6 c id ρ H w):=by
 obtain⟨h1,h2⟩:=h
 obtain⟨k1,k2⟩:=h1.used (U:=fun x=>c.U x\/x=id) (fun x hx=>by
  rcases hx with hx|rfl
  ·exact .inl hx
  ·exact .inl hb)
 exact⟨k1,h2.trans k2⟩
theorem jZ {e:TypeId} {sz:Nat} (d:AV) {es:List AV} {arr:Array Value} {v:Value} {r:AV} (h:dy w0 c) (hid:¬c.U id) (hz:0<sz) (hxt:e∈XT->arr.size=sz\/sz=1) {W:World} (hW:W.heap=(c.w.heap.push (.cells arr e)))
 (hos:W.os=c.w.os) (htp:W.tape=c.w.tape) (hout:W.output=c.w.output)
 (hrun:(execOp a.eval o).run P c.w= .ok (.value v) W)
 (hlen:es.length * sz<=arr.size)
 (hel:∀i,i<es.length->∃u,u.cells.size=sz/\(∀j,j<sz->arr[i * sz+j]?=u.cells[j]?)/\(∀(j:Nat) (x:Value),u.cells[j]?=some x->x.oneCell'=true)/\VR c (es.getD i .any) u)
 (hv:∀c':Cx,c'.U id->c'.ρ id=some (c.w.heap.size,0,arr.size)->c'.H id=some (.row e sz d es)->VR c' r v):
 eU P o a w0 c id r (fU c.H id (some (.row e sz d es))):=by
 intro K Q hK
 unfold Oper.wp
 rw[hrun,Oper.upon_value]
 have hblk:W.heap[c.w.heap.size]?=some (.cells arr e (0,0)):=by rw[hW];simp
 have hold:∀k,k<c.w.heap.size->W.heap[k]?=c.w.heap[k]?:=fun k hk=>by rw[hW,Array.getElem?_push,if_neg (by omega)]
 obtain⟨h1,h2⟩:=h.put (b:=id) (e:=e) (sz:=sz) d (es:=es) (w':=W) (blk:=c.w.heap.size) (o:=0) (z:=arr.size) (arr:=arr) hz (.inl hid) (.inl rfl) hos htp hout
  (by rw[hW];simp) (fun k hk _=>hold k hk) hblk ⟨by omega,fun he=>⟨rfl,hxt he⟩⟩ hlen (fun i hi=>by
   obtain⟨u,hu1,hu2,hu3,hu4⟩:=hel i hi
   refine⟨u,⟨hu1,fun j hj=> ?_,hu3⟩,hu4⟩
   rw[cell_of_row W c.w.heap.size _ arr e (0,0) hblk,<-hu2 j hj]
   congr 1
   omega)
 exact hK v _ _ h1 h2 (hv _ (.inr rfl) (by simp[j6]) (by simp[j6]))
theorem w4 {ag:Bool} {sz:Nat} {x:AV} {v:Value} (hf:fits ag sz x=true) (h:VR c x v):v.cells.size=sz/\∀(j:Nat) (u:Value),v.cells[j]?=some u->u.oneCell'=true:=by
 by_cases ha:∃cs,x= .agg cs
 ·obtain⟨cs,rfl⟩:=ha
  simp only[fits,Bool.and_eq_true,beq_iff_eq] at hf
  rw[VR] at h
  obtain⟨vs,rfl,hr⟩:=h
  have hl:=hr.length
  simp only[Value.cells]
  refine⟨by simp at hl;omega,fun j u hu=>hr.N0 hf.2 u ?_⟩
  exact List.mem_of_getElem? (i:=j) (by simpa using hu)
 ·have hf':(!ag&&sz==1&&one x)=true:=by cases x<;>first|exact hf|exact absurd ⟨_,rfl⟩ ha
  simp only[Bool.and_eq_true,beq_iff_eq] at hf'
  have h1:=h.JI hf'.2
  rw[cells_one h1]
  refine⟨by simp[hf'.1.2],fun j u hu=> ?_⟩
  have:u=v:=by
   rcases j with _|j<;>simp at hu
   exact hu.symm
  rw[this];exact h1
def zS (P:Program) (t:TypeId):Option (Nat×Bool×List Value):=match zT P t with
 |some p=>if XT.contains t&&p.1 != 1 then none else some p
 |none=>none
theorem ky {t:TypeId} {p:Nat×Bool×List Value} (h:zS P t=some p):zT P t=some p/\(t∈XT->p.1=1):=by
 unfold zS at h
 split at h
 ·rename_i q hq
  split at h
  ·cases h
  ·rename_i h2
   cases h
   refine⟨hq,fun ht=> ?_⟩
   apply Classical.byContradiction
   intro hne
   exact h2 (by simp[ht,hne])
 ·cases h
theorem jT {t:TypeId} {sz:Nat} {ag:Bool} {z:List Value} (hz:zT P t=some (sz,ag,z)):∃(i:TypeInfo) (v:Value),P.info? t=some i/\i.zero=some v/\i.size=sz/\gX P t=some ag/\kq P t=some sz/\v.cells=z.toArray/\z.length=sz/\0<sz/\
 (∀(j:Nat) (u:Value),v.cells[j]?=some u->u.oneCell'=true)/\(∀c,VR c (gO ag z) v)/\fits ag sz (gO ag z)=true:=by
 unfold zT at hz
 cases hi:P.info? t with
 |none=>rw[hi] at hz;simp at hz
 |some i=>
  cases hg:gX P t with
  |none=>rw[hi,hg] at hz;simp at hz
  |some g=>
   rw[hi,hg] at hz
   simp only at hz
   cases h0:i.zero with
   |none=>rw[h0] at hz;simp at hz
   |some v=>
    rw[h0] at hz
    by_cases ha:∃cs,v= .agg cs
    ·obtain⟨cs,rfl⟩:=ha
     simp only[Option.ite_none_right_eq_some,Bool.and_eq_true,beq_iff_eq,decide_eq_true_eq,Option.some.injEq,Prod.mk.injEq,Array.all_eq_true] at hz
     obtain⟨⟨⟨⟨hg',h1⟩,h2⟩,h3⟩,h4,h5,h6⟩:=hz
     subst h4 h5 h6 hg'
     refine⟨i,_,rfl,h0,rfl,rfl,by simp[kq,hi],by simp[Value.cells],by simpa using h1,h2,fun j u hu=> ?_,fun c=> ?_, ?_⟩
     ·simp only[Value.cells] at hu
      obtain⟨hj,rfl⟩:=Array.getElem?_eq_some_iff.1 hu
      exact h3 j hj
     ·simp only[gO,if_true];rw[VR];exact⟨cs,rfl,cu.sc _⟩
     ·simp only[gO,if_true,fits,Bool.true_and,List.length_map,Array.length_toList,h1,BEq.rfl]
      have:∀l:List Value,(∀u∈l,u.oneCell'=true)->jM (l.map .sc)=true:=by
       intro l
       induction l with
       |nil=>intro _;rfl
       |cons x l ih=>intro hl;simp only[List.map_cons,jM,one,hl x (by simp),Bool.true_and];exact ih fun u hu=>hl u (by simp[hu])
      refine this _ fun u hu=> ?_
      obtain⟨j,hj,rfl⟩:=List.mem_iff_getElem.1 hu
      simpa using h3 j (by simpa using hj)
    ·have hz':(if(!g&&i.size==1&&v.oneCell')=true then some (1,false,[v]) else none)=some (sz,ag,z):=by
      cases v<;>first|exact hz|exact absurd ⟨_,rfl⟩ ha
     simp only[Option.ite_none_right_eq_some,Bool.and_eq_true,beq_iff_eq,Option.some.injEq,Prod.mk.injEq,Bool.not_eq_true'] at hz'
     obtain⟨⟨⟨hg',h1⟩,h2⟩,h4,h5,h6⟩:=hz'
     subst h4 h5 h6 hg'
     have hc:=cells_one h2
     refine⟨i,v,rfl,h0,h1,rfl,by simp[kq,hi,h1],by simp[hc],rfl,by omega,fun j u hu=> ?_,fun c=> ?_, ?_⟩
     ·rw[hc] at hu
      rcases j with _|j<;>simp at hu
      subst hu;exact h2
     ·simp only[gO];simp;rw[VR]
     ·simp[gO,fits,one,h2]
theorem ze {t:TypeId} {x:Operand} {v:Value} {xa:AV} {sz:Nat} {ag:Bool} (ho:o.op= .box t x) (hf:fits ag sz xa=true) (hz:0<sz) (h:dy w0 c) (hid:¬c.U id) (hx:a.eval x=v) (hv:VR c xa v) (d:AV):
 eU P o a w0 c id (.pt id 1 0 0) (fU c.H id (some (.row t sz d [xa]))):=by
 obtain⟨f1,f2⟩:=w4 hf hv
 refine jZ d (es:=[xa]) (arr:=v.cells) (v:= .pointer (some ⟨c.w.heap.size,0,none⟩)) h hid hz (fun _=> .inl f1) (W:=c.w.alloc (.cells v.cells t)) rfl rfl rfl rfl ?_ (by simp[f1]) ?_ ?_
 ·unfold execOp
  simp[ho,Instr.box,newVar,newRow,hx]
 ·intro i hi
  have:i=0:=by simpa using hi
  subst this
  exact⟨v,f1,fun j _=>by simp,f2,by simpa using hv⟩
 ·intro c' hU hρ hH
  rw[VR]
  refine⟨hU,by omega,_,rfl,fun e sz' d' es he=> ?_⟩
  rw[hH] at he
  simp only[Option.some.injEq,fH.row.injEq] at he
  obtain⟨rfl,rfl,rfl,rfl⟩:=he
  exact⟨by simp,fun _=>⟨hz,_,_,_,hρ,by simp⟩⟩
theorem DB {t:TypeId} {sz:Nat} {ag:Bool} {z:List Value} (ho:o.op= .alloc t) (hz:zT P t=some (sz,ag,z)) (h:dy w0 c) (hid:¬c.U id) (d:AV):
 eU P o a w0 c id (.pt id 1 0 0) (fU c.H id (some (.row t sz d [gO ag z]))):=by
 obtain⟨i,v,hi,h0,h1,hg,hk,hc,hl,hpos,hone,hv,hfit⟩:=jT hz
 refine jZ d (es:=[gO ag z]) (arr:=v.cells) (v:= .pointer (some ⟨c.w.heap.size,0,none⟩)) h hid hpos (fun _=> .inl (by simp[hc,hl])) (W:=c.w.alloc (.cells v.cells t)) rfl rfl rfl rfl ?_ (by simp[hc,hl]) ?_ ?_
 ·unfold execOp
  simp[ho,Instr.alloc,newVar,newRow,zeroValue,typeInfo,hi,h0]
 ·intro j hj
  have:j=0:=by simpa using hj
  subst this
  exact⟨v,by simp[hc,hl],fun j _=>by simp,hone,by simpa using hv c⟩
 ·intro c' hU hρ hH
  rw[VR]
  refine⟨hU,by omega,_,rfl,fun e sz' d' es he=> ?_⟩
  rw[hH] at he
  simp only[Option.some.injEq,fH.row.injEq] at he
  obtain⟨rfl,rfl,rfl,rfl⟩:=he
  exact⟨by simp,fun _=>⟨hpos,_,_,_,hρ,by simp⟩⟩
theorem qV (z:Array Value) (sz n i j:Nat) (hs:z.size=sz) (hi:i<n) (hj:j<sz):(madeCells z (n * sz))[i * sz+j]?=z[j]?:=by
 have hlt:i * sz+j<n * sz:=by
  have:i * sz+sz<=n * sz:=by rw[<-Nat.succ_mul];exact Nat.mul_le_mul_right _ hi
  omega
 have hm:(i * sz+j)%sz=j:=by rw[Nat.add_comm,Nat.add_mul_mod_self_right];exact Nat.mod_eq_of_lt hj
 simp[madeCells,hlt,hs,hm,hj]
theorem IH {t e:TypeId} {sz:Nat} (hxt:e∈XT->sz=1) {l k:Operand} {kl kc:IntKind} {n:Int} {i:TypeInfo} {ag:Bool} {z:List Value} (ho:o.op= .makeSlice t l k) (ht:P.underlying t=some (.slice e)) (hi:P.info? e=some i) (hz:zT P e=some (sz,ag,z))
 (h:dy w0 c) (hid:¬c.U id) (hl:a.eval l= .int kl n) (hk:a.eval k= .int kc n) (h0:0<=n) (hb:n * i.bytes<=281474976710656) (h63:n<=9223372036854775807) (d:AV):
 eU P o a w0 c id (.sl id n.toNat) (fU c.H id (some (.row e sz d (List.replicate n.toNat (gO ag z))))):=by
 obtain⟨i',v,hi',hz0,h1,hg,hk',hc,hlz,hpos,hone,hv,hfit⟩:=jT hz
 rw[hi] at hi'
 cases hi'
 have hr:=run_make (P:=P) c.w t e i v ht hi hz0 kl kc n n h0 (Int.le_refl _) (by rw[Int.mul_comm];exact hb) h63
 refine jZ d (es:=List.replicate n.toNat (gO ag z)) (arr:=madeCells v.cells (n.toNat * i.size)) (v:= .slice (some ⟨c.w.heap.size,0,none⟩) n.toNat n.toNat) h hid hpos (fun he=> .inr (hxt he)) (W:=c.w.alloc (.cells (madeCells v.cells (n.toNat * i.size)) e)) rfl rfl rfl rfl ?_ ?_ ?_ ?_
 ·unfold execOp
  simp[ho,hl,hk,hr]
 ·simp[size_madeCells,h1]
 ·intro j hj
  have hj:j<n.toNat:=by simpa using hj
  refine⟨v,by simp[hc,hlz],fun x hx=> ?_,hone, ?_⟩
  ·rw[h1,qV v.cells sz n.toNat j x (by simp[hc,hlz]) hj hx]
  ·have hg:(List.replicate n.toNat (gO ag z)).getD j .any=gO ag z:=by
    rw[List.getD,List.getElem?_replicate,if_pos hj];rfl
   rw[hg]
   exact hv c
 ·intro c' hU hρ hH
  rw[VR]
  refine⟨hU,_,_,rfl,fun e' sz' d' es he=> ?_⟩
  rw[hH] at he
  simp only[Option.some.injEq,fH.row.injEq] at he
  obtain⟨rfl,rfl,rfl,rfl⟩:=he
  refine⟨by simp,fun _=> .inr ⟨_,_,_,hρ,rfl,Nat.le_refl _,by simp[size_madeCells,h1],by unfold maxLen;omega⟩⟩
/-! ### stores -/
theorem OO {ag:Bool} {k sz off:Nat} {e y r:AV} {u v:Value} (hs:UP ag k e y sz off=some r) (hu:VR c e u) (hus:u.cells.size=sz) (huo:∀(j:Nat) (x:Value),u.cells[j]?=some x->x.oneCell'=true)
 (hy:VR c y v) (hk1:ag=false->k=1) (hoff:off<sz):
 ∃u',v.cells.size=k/\off+k<=sz/\(∀x∈v.cells.toList,x.oneCell'=true)/\u'.cells.size=sz/\(∀(j:Nat) (x:Value),u'.cells[j]?=some x->x.oneCell'=true)/\VR c r u'/\
  (∀j,j<sz->u'.cells[j]?=if off<=j/\j<off+k then v.cells[j - off]? else u.cells[j]?):=by
 cases ag with
 |true=>
  cases e<;>simp only[UP,reduceCtorEq] at hs
  cases y<;>simp only[reduceCtorEq] at hs
  rename_i cells ys
  split at hs
  ·rename_i hy1
   obtain⟨hyk,hyo⟩:=hy1
   have hy':=hy
   rw[VR] at hy'
   obtain⟨vs,rfl,hvs⟩:=hy'
   have hvl:=hvs.length
   have hvo:=hvs.N0 hyo
   rw[VR] at hu
   obtain⟨us,rfl,hus'⟩:=hu
   have hul:=hus'.length
   simp only[Value.cells] at hus huo
   simp at hvl hul
   split at hs
   ·rename_i hw
    obtain⟨rfl,rfl⟩:=hw
    simp only[Option.some.injEq] at hs
    subst hs
    refine⟨.agg vs,by simp[Value.cells];omega,by omega,by simpa[Value.cells] using hvo,by simp[Value.cells];omega,fun j x hx=>hvo x ?_,hy,fun j hj=> ?_⟩
    ·exact List.mem_of_getElem? (i:=j) (by simpa[Value.cells] using hx)
    ·rw[if_pos ⟨by omega,by omega⟩];simp
   ·split at hs
    ·rename_i _ hle
     simp only[Option.some.injEq] at hs
     subst hs
     refine⟨.agg (us.toList.take off++vs.toList++us.toList.drop (off+vs.size)).toArray,by simp[Value.cells];omega,by omega,by simpa[Value.cells] using hvo,by simp[Value.cells];omega,fun j x hx=> ?_, ?_,fun j hj=> ?_⟩
     ·simp only[Value.cells,List.getElem?_toArray] at hx
      have hx:=List.mem_of_getElem? hx
      simp only[List.mem_append] at hx
      rcases hx with(hx|hx)|hx
      ·obtain⟨i,hi,he⟩:=List.mem_iff_getElem.1 (List.mem_of_mem_take hx)
       exact huo i x (by simp at hi;simp[hi];simpa using he)
      ·exact hvo x hx
      ·obtain⟨i,hi,he⟩:=List.mem_iff_getElem.1 (List.mem_of_mem_drop hx)
       exact huo i x (by simp at hi;simp[hi];simpa using he)
     ·rw[VR]
      refine⟨_,rfl, ?_⟩
      unfold ZK
      have:(ys.length:Nat)=vs.size:=by omega
      rw[this]
      exact cu.append (hus'.drop _) (cu.append hvs (hus'.take off))
     ·simp only[Value.cells,List.getElem?_toArray,List.append_assoc,List.getElem?_append,List.length_take,Array.length_toList]
      have hm:min off us.size=off:=by omega
      rw[hm]
      by_cases h1:j<off
      ·rw[if_pos h1,if_neg (by omega)];simp[h1]
      ·rw[if_neg h1]
       by_cases h2:j<off+k
       ·rw[if_pos (by omega),if_pos ⟨by omega,h2⟩];simp
       ·rw[if_neg (by omega),if_neg (by omega),List.getElem?_drop]
        simp
        congr 1
        omega
    ·simp at hs
  ·simp at hs
 |false=>
  have hk1:=hk1 rfl
  subst hk1
  by_cases ha:∃cells,e= .agg cells
  ·obtain⟨cells,rfl⟩:=ha
   simp only[UP,Option.ite_none_right_eq_some,Option.some.injEq] at hs
   obtain⟨ho,rfl⟩:=hs
   have hv1:=hy.JI ho
   rw[cells_one hv1]
   rw[VR] at hu
   obtain⟨us,rfl,hus'⟩:=hu
   have hul:=hus'.length
   simp only[Value.cells] at hus huo
   simp at hul
   refine⟨.agg (us.setIfInBounds off v),by simp,by omega,by simpa using hv1,by simpa[Value.cells] using hus,fun j x hx=> ?_, ?_,fun j hj=> ?_⟩
   ·simp only[Value.cells,Array.getElem?_setIfInBounds] at hx
    split at hx
    ·split at hx
     ·simp at hx;subst hx;exact hv1
     ·simp at hx
    ·exact huo j x hx
   ·rw[VR]
    refine⟨_,rfl,cu.mk (by simp;omega) fun i hi w hw=> ?_⟩
    simp only[List.length_set] at hi
    simp only[Array.toList_setIfInBounds,List.getElem?_set] at hw
    by_cases hio:off=i
    ·subst hio
     rw[if_pos rfl,if_pos (by simp;omega)] at hw
     simp at hw
     subst hw
     simpa[List.getD,List.getElem?_set,hi] using hy
    ·rw[if_neg hio] at hw
     obtain⟨w',hw',hr⟩:=hus'.get i hi
     rw[hw] at hw'
     cases hw'
     simpa[List.getD,List.getElem?_set,hio] using hr
   ·simp only[Value.cells,Array.getElem?_setIfInBounds]
    by_cases hj':off=j
    ·subst hj';rw[if_pos rfl,if_pos (by omega),if_pos ⟨by omega,by omega⟩];simp
    ·rw[if_neg hj',if_neg (by omega)]
  ·have hone:one y=true/\sz=1/\r=y:=by
    cases e<;>first|exact absurd ⟨_,rfl⟩ ha|(simp only[UP,Option.ite_none_right_eq_some,Option.some.injEq] at hs;exact⟨hs.1.1,hs.1.2,hs.2.symm⟩)
   obtain⟨ho,rfl,rfl⟩:=hone
   have hv1:=hy.JI ho
   have hc1:=cells_one hv1
   refine⟨v,by simp[hc1],by omega,by simpa[hc1] using hv1,by simp[hc1],fun j x hx=> ?_,hy,fun j hj=> ?_⟩
   ·rw[hc1] at hx
    rcases j with _|j<;>simp at hx
    subst hx;exact hv1
   ·have h1:off=0:=by omega
    subst h1
    rw[if_pos ⟨by omega,by omega⟩];simp
theorem DC {t:TypeId} {x y:Operand} {ag:Bool} {k:Nat} (ho:o.op= .store t x y) (hk:kq P t=some k) (hk1:ag=false->k=1) (h:dy w0 c)
 {b:Nat} {e:TypeId} {sz i off:Nat} {d ya r:AV} {es:List AV} {blk o' z:Nat} (hH:c.H b=some (.row e sz d es)) (hρ:c.ρ b=some (blk,o',z)) (hx:a.eval x= .pointer (some ⟨blk,o'+i * sz+off,none⟩)) (hi:i<es.length) (hoff:off<sz)
 (hy:VR c ya (a.eval y)) (hs:UP ag k (es.getD i d) ya sz off=some r):
 eU P o a w0 c id .any (fU c.H b (some (.row e sz d (es.set i r)))):=by
 intro K Q hK
 obtain⟨hU,hz,hr⟩:=h.BC b e sz d es hH (by omega)
 rcases hr with⟨h0,_⟩|⟨blk1,o1,z1,hρ1,hlow,⟨arr,harr,hsz⟩,hlen,hrow⟩
 ·rw[hρ] at h0;cases h0
 rw[hρ] at hρ1
 cases hρ1
 obtain⟨u,hat,hu⟩:=eC hrow i hi
 rw[uS d hi] at hs
 have hat':=hat
 obtain⟨a1,a2,a3⟩:=hat'
 obtain⟨u',v1,v2,v3,u1,u2,u3,u4⟩:=OO hs hu a1 a3 hy hk1 hoff
 have hisz:i * sz+sz<=es.length * sz:=by rw[<-Nat.succ_mul];exact Nat.mul_le_mul_right _ hi
 have hrun:(storeCells ⟨blk,o'+i * sz+off,none⟩ (a.eval y).cells.toList).run P c.w= .ok () (c.w.setRow blk (arr.toList.take (o'+i * sz+off)++(a.eval y).cells.toList++arr.toList.drop (o'+i * sz+off+k)).toArray):=by
  have:=run_storeCells_at (P:=P) blk (o'+i * sz+off) e (a.eval y).cells.toList 0 arr c.w harr (by simp[v1];omega) v3
  simpa[v1] using this
 unfold Oper.wp execOp
 simp only[ho,Instr.storeAt,Instr.sureAddr,hx,storeVar,Sem.run_bind,Sem.run_pure,Result.andThen_ok,run_sizeOf hk]
 rw[if_neg (by simp[v1])]
 simp only[hrun,Result.andThen_ok,Oper.upon_skip]
 have hb':=setRow_heap c.w blk arr (arr.toList.take (o'+i * sz+off)++(a.eval y).cells.toList++arr.toList.drop (o'+i * sz+off+k)).toArray e (0,0) harr
 have hcell:∀m,m<arr.size->(arr.toList.take (o'+i * sz+off)++(a.eval y).cells.toList++arr.toList.drop (o'+i * sz+off+k)).toArray[m]?=
  if o'+i * sz+off<=m/\m<o'+i * sz+off+k then(a.eval y).cells[m - (o'+i * sz+off)]? else arr[m]?:=by
  intro m hm
  simp only[List.getElem?_toArray,List.append_assoc,List.getElem?_append,List.length_take,Array.length_toList]
  have hmin:min (o'+i * sz+off) arr.size=o'+i * sz+off:=by omega
  rw[hmin]
  by_cases h1:m<o'+i * sz+off
  ·rw[if_pos h1,if_neg (by omega)];simp[h1]
  ·rw[if_neg h1]
   by_cases h2:m<o'+i * sz+off+k
   ·rw[if_pos (by omega),if_pos ⟨by omega,h2⟩];simp
   ·rw[if_neg (by omega),if_neg (by omega),List.getElem?_drop]
    simp
    congr 1
    omega
 obtain⟨h1,h2⟩:=kg (id:=id) (h.put (b:=b) (e:=e) (sz:=sz) d (es:=es.set i r) (w':=c.w.setRow blk (arr.toList.take (o'+i * sz+off)++(a.eval y).cells.toList++arr.toList.drop (o'+i * sz+off+k)).toArray) (blk:=blk) (o:=o') (z:=z) hz
  (.inr ⟨e,d,es,hH, .inl ⟨by simp,hρ⟩⟩) (.inr ⟨_,_,_,hH,hρ⟩) rfl rfl rfl (by simp) (fun k' _ hne=>setRow_other c.w blk k' _ hne) hb' ⟨by simp[v1];omega,fun he=>⟨(hsz.2 he).1,(hsz.2 he).2.imp (fun hh=>by simp[v1];omega) (fun hh=>hh)⟩⟩ (by simpa using hlen) (fun m hm=>by
   simp only[List.length_set] at hm
   by_cases hmi:m=i
   ·subst hmi
    refine⟨u',⟨u1,fun j hj=> ?_,u2⟩,by simpa[List.getD,List.getElem?_set,hm] using u3⟩
    rw[cell_of_row _ blk _ _ e (0,0) hb',hcell _ (by omega),u4 j hj]
    by_cases hin:off<=j/\j<off+k
    ·rw[if_pos (by omega),if_pos hin]
     congr 1
     omega
    ·rw[if_neg (by omega),if_neg hin,<-a2 j hj,cell_of_row c.w blk _ arr e (0,0) harr]
   ·obtain⟨um,⟨b1,b2,b3⟩,hum⟩:=eC hrow m hm
    have hmsz:m * sz+sz<=es.length * sz:=by rw[<-Nat.succ_mul];exact Nat.mul_le_mul_right _ hm
    refine⟨um,⟨b1,fun j hj=> ?_,b3⟩,by simpa[List.getD,List.getElem?_set,Ne.symm hmi] using hum⟩
    have hdis:¬(o'+i * sz+off<=o'+m * sz+j/\o'+m * sz+j<o'+i * sz+off+k):=by
     rcases Nat.lt_or_gt_of_ne hmi with hlt|hgt
     ·have:m * sz+sz<=i * sz:=by rw[<-Nat.succ_mul];exact Nat.mul_le_mul_right _ hlt
      omega
     ·have:i * sz+sz<=m * sz:=by rw[<-Nat.succ_mul];exact Nat.mul_le_mul_right _ hgt
      omega
    rw[cell_of_row _ blk _ _ e (0,0) hb',hcell _ (by omega),if_neg hdis,<-b2 j hj,cell_of_row c.w blk _ arr e (0,0) harr])) hU
 have hρeq:fU c.ρ b (some (blk,o',z))=c.ρ:=by
  funext x
  by_cases hxb:x=b
  ·subst hxb;simp[hρ]
  ·exact eV _ _ hxb
 rw[hρeq] at h1 h2
 exact hK _ _ _ h1 h2 (by rw[VR];trivial)
end
end
section
section
variable {P:Program} {o:Oper} {a:Act} {w0:World} {c:Cx} {id:Nat}
theorem xe {t t2 ty e e2:TypeId} (ht:P.underlying t=some (.slice e)) (ht2:P.underlying t2=some (.slice e2)) (args:Array Value) (w:World):
 (Builtin.append_ #[t,t2] ty args).run P w=(Builtin.append_ #[t,t] ty args).run P w:=by
 cases h0:args[0]? with
 |none=>simp[Builtin.append_,h0]
 |some s=>
  cases h1:args[1]? with
  |none=>simp[Builtin.append_,h0,h1]
  |some x=>cases s<;>simp[Builtin.append_,h0,h1,run_underlying ht,run_underlying ht2]
theorem lR {sz:Nat}:∀{es:List AV} {blk off:Nat},eA c sz es blk off->∃news:List Value,news.length=es.length * sz/\(∀j,j<news.length->c.w.cell? ⟨blk,off+j,none⟩=news[j]?)/\(∀u∈news,u.oneCell'=true)/\
 ∀i,i<es.length->∃v:Value,v.cells.size=sz/\(∀j,j<sz->news[i * sz+j]?=v.cells[j]?)/\(∀(j:Nat) (x:Value),v.cells[j]?=some x->x.oneCell'=true)/\VR c (es.getD i .any) v
 |[],_,_,_=>⟨[],by simp,by simp,by simp,by simp⟩
 |e::es,blk,off,h=>by
  rw[eA] at h
  obtain⟨⟨v,⟨a1,a2,a3⟩,hv⟩,hr⟩:=h
  obtain⟨news,n1,n2,n3,n4⟩:=lR hr
  refine⟨v.cells.toList++news,by simp[n1,a1,Nat.add_mul];omega,fun j hj=> ?_,fun u hu=> ?_,fun i hi=> ?_⟩
  ·rw[List.getElem?_append]
   simp only[Array.length_toList,a1]
   by_cases hj':j<sz
   ·rw[if_pos hj',a2 j hj'];simp
   ·rw[if_neg hj',<-n2 (j - sz) (by simp[a1] at hj;omega)]
    congr 2
    omega
  ·simp only[List.mem_append] at hu
   rcases hu with hu|hu
   ·obtain⟨j,hj,he⟩:=List.mem_iff_getElem.1 hu
    exact a3 j u (by simp at hj;simp[hj];simpa using he)
   ·exact n3 u hu
  ·cases i with
   |zero=>
    refine⟨v,a1,fun j hj=> ?_,a3,by simpa using hv⟩
    rw[List.getElem?_append,if_pos (by simp[a1];omega)]
    simp
   |succ i=>
    obtain⟨u,u1,u2,u3,u4⟩:=n4 i (by simpa using hi)
    refine⟨u,u1,fun j hj=> ?_,u3,by simpa using u4⟩
    rw[List.getElem?_append,if_neg (by simp[a1,Nat.add_mul];omega),<-u2 j hj]
    congr 1
    simp[a1,Nat.add_mul]
    omega
theorem jK {sz:Nat} {es:List AV} {blk off:Nat} (h:eA c sz es blk off) (lo n:Nat) (hn:lo+n<=es.length):eA c sz ((es.drop lo).take n) blk (off+lo * sz):=by
 refine kV fun i hi=> ?_
 simp only[List.length_take,List.length_drop] at hi
 obtain⟨v,h1,h2⟩:=eC h (lo+i) (by omega)
 refine⟨v,by rw[show off+lo * sz+i * sz=off+(lo+i) * sz by rw[Nat.add_mul];omega];exact h1, ?_⟩
 have:((es.drop lo).take n).getD i .any=es.getD (lo+i) .any:=by
  simp only[List.getD,List.getElem?_take,List.getElem?_drop]
  rw[if_pos (by omega)]
 rw[this];exact h2
theorem pM {H:Hp} {x:AV} {v:Value} {xs:List AV} {sz:Nat} (h:dy w0 c) (hH:c.H=bt H) (hv:VR c x v) (he:ic H x=some xs) (hs:BP H sz x=true):
 ∃ad cap,v= .slice ad xs.length cap/\(xs=[]\/∃blk off,ad=some ⟨blk,off,none⟩/\eA c sz xs blk off):=by
 cases x<;>try simp only[ic,reduceCtorEq] at he
 ·rename_i u
  split at he
  all_goals first|(simp only[reduceCtorEq] at he;done)|skip
  all_goals rename_i heq
  all_goals first|(cases heq;done)|skip
  all_goals (injection heq with heq;subst heq;simp only[Option.some.injEq] at he;subst he;rw[VR] at hv;subst hv;exact⟨none,0,rfl, .inl rfl⟩)
 ·simp only[Option.some.injEq] at he
  subst he
  simp only[BP,beq_iff_eq] at hs
  subst hs
  rw[VR] at hv
  obtain⟨ad,cap,rfl,_,hr⟩:=hv
  refine⟨ad,cap,rfl, ?_⟩
  rcases hr with h0|⟨blk,off,rfl,_,_,hr⟩
  ·exact .inl h0
  ·exact .inr ⟨blk,off,rfl,hr⟩
 ·rename_i b len
  simp only[BP] at hs
  cases hb:bt H b with
  |none=>rw[hb] at he;simp at he
  |some k=>
   obtain⟨e,sz',d,es⟩:=k
   rw[hb] at he hs
   simp only[Option.ite_none_right_eq_some,Option.some.injEq,beq_iff_eq] at he hs
   obtain⟨hl,rfl⟩:=he
   subst hs
   rw[VR] at hv
   obtain⟨_,ad,cap,rfl,hr⟩:=hv
   rw[<-hH] at hb
   obtain⟨_,h2⟩:=hr _ _ _ _ hb
   refine⟨ad,cap,by rw[hl], ?_⟩
   obtain⟨_,_,hrow⟩:=h.kO b _ _ _ _ hb (vI (h2 hl))
   rcases hrow with⟨_,h0⟩|⟨blk,off,z,hρ,_,_,_,hrow⟩
   ·exact .inl h0
   ·rcases h2 hl with⟨h0,_⟩|⟨blk',off',z',hρ',rfl,_⟩
    ·rw[hρ] at h0;cases h0
    ·rw[hρ] at hρ';cases hρ'
     exact .inr ⟨blk,off,rfl,hrow⟩
 ·simp only[Option.some.injEq] at he
  subst he
  rw[VR] at hv
  obtain⟨ad,rfl⟩:=hv
  exact⟨ad,0,rfl, .inl rfl⟩
 ·rename_i b len lo n
  simp only[BP] at hs
  cases hb:bt H b with
  |none=>rw[hb] at he;simp at he
  |some k=>
   obtain⟨e,sz',d,es⟩:=k
   rw[hb] at he hs
   simp only[Option.ite_none_right_eq_some,Option.some.injEq,beq_iff_eq] at he hs
   obtain⟨hl,rfl⟩:=he
   subst hs
   rw[VR] at hv
   obtain⟨_,hi,ad,cap,rfl,_,hr⟩:=hv
   rw[<-hH] at hb
   obtain⟨_,h2⟩:=hr _ _ _ _ hb
   have hlen:((es.drop lo).take n).length=n:=by simp;omega
   refine⟨ad,cap,by rw[hlen], ?_⟩
   obtain⟨_,_,hrow⟩:=h.kO b _ _ _ _ hb (KC (h2 hl).2)
   rcases h2 hl with h0|⟨blk',off',z',hρ',rfl⟩
   ·subst h0;exact .inl (by simp)
   ·rcases hrow with⟨h0,_⟩|⟨blk,off,z,hρ,_,_,_,hrow⟩
    ·rw[hρ'] at h0;cases h0
    ·rw[hρ] at hρ';cases hρ'
     exact .inr ⟨_,_,rfl,jK hrow lo n (by omega)⟩
theorem mu {t ty e:TypeId} {i:TypeInfo} (ht:P.underlying t=some (.slice e)) (hi:P.info? e=some i) (ad:Option Addr) (cap:Nat) (w:World):
 (Builtin.append_ #[t,t] ty #[.slice none 0 0, .slice ad 0 cap]).run P w= .ok (.slice none 0 0) w:=by
 cases ad<;>simp[Builtin.append_,run_underlying ht,sizeOf,typeInfo,hi,Builtin.lenOf,Builtin.firstCells,loadCells,loadCellsFrom]
theorem pA {t ty e:TypeId} {i:TypeInfo} (ht:P.underlying t=some (.slice e)) (hi:P.info? e=some i) (w:World)
 (g off sLen sCap:Nat) (cur:Array Value) (hg:w.heap[g]?=some (.cells cur e (0,0))) (ad:Option Addr) (m k:Nat) (news:List Value)
 (hf:(Builtin.firstCells i.size m (.slice ad m k)).run P w= .ok news.toArray w) (h1:∀u∈news,u.oneCell'=true)
 (hroom:sLen+m<=sCap) (hfit:off+sLen * i.size+news.length<=cur.size):
 (Builtin.append_ #[t,t] ty #[.slice (some ⟨g,off,none⟩) sLen sCap, .slice ad m k]).run P w=
  .ok (.slice (some ⟨g,off,none⟩) (sLen+m) sCap) (w.setRow g (cur.toList.take (off+sLen * i.size)++news++cur.toList.drop (off+sLen * i.size+news.length)).toArray):=by
 have hst:=run_storeCells_at (P:=P) g (off+sLen * i.size) e news 0 cur w hg (by simpa using hfit) h1
 simp only[Nat.add_zero] at hst
 simp[Builtin.append_,run_underlying ht,sizeOf,typeInfo,hi,Builtin.lenOf,hroom,hf,Addr.add_lit,hst]
theorem rT {s x:Operand} {t t2 e e2:TypeId} (ho:o.op= .call { callee:= .builtin .append,args:=#[s,x],argTypes:=#[t,t2] }) (ht:P.underlying t=some (.slice e)) (ht2:P.underlying t2=some (.slice e2))
 {v:Value} {W:World} (hr:(Builtin.append_ #[t,t] o.type #[a.eval s,a.eval x]).run P c.w= .ok v W):(execOp a.eval o).run P c.w= .ok (.value v) W:=by
 unfold execOp
 simp only[ho,resolve,invoke,builtin,Sem.run_bind,Sem.run_pure,Result.andThen_ok,List.map_toArray,List.map_cons,List.map_nil,xe ht ht2,hr]
theorem zH {news:List Value} {m sz:Nat} (hl:news.length=m * sz) (i j:Nat) (hi:i<m) (hj:j<sz) (z:Array Value):(news.toArray++z)[i * sz+j]?=news[i * sz+j]?:=by
 have:i * sz+sz<=m * sz:=by rw[<-Nat.succ_mul];exact Nat.mul_le_mul_right _ hi
 rw[Array.getElem?_append,if_pos (by simp;omega)]
 simp
theorem w5 {need iB bytes:Nat} (h:iB<need) (hb:need * bytes<=iA) (hbl:bytes<=1048576):Builtin.nextslicecap need iB * bytes<=281474976710656:=by
 have h1:=nextslicecap_le h
 have h2:Builtin.nextslicecap need iB<=need+need /4+192:=by
  unfold Builtin.nextslicecap
  split
  ·omega
  ·split
   ·omega
   ·rw[growBy_four]
    repeat' split
    all_goals omega
 generalize Builtin.nextslicecap need iB=c at *
 unfold iA at hb
 by_cases hn:need<1024
 ·have:c * bytes<=2048 * 1048576:=Nat.mul_le_mul (by omega) hbl
  omega
 ·have h3:16 * c<=23 * need:=by omega
  have h4:16 * c * bytes<=23 * need * bytes:=Nat.mul_le_mul_right _ h3
  rw[Nat.mul_assoc,Nat.mul_assoc] at h4
  omega
theorem zd {H:Hp} {s x:Operand} {t t2 e e2:TypeId} {sz:Nat} (hxt:e∈XT->sz=1) {i:TypeInfo} {ag:Bool} {z:List Value} (ho:o.op= .call { callee:= .builtin .append,args:=#[s,x],argTypes:=#[t,t2] })
 (ht:P.underlying t=some (.slice e)) (ht2:P.underlying t2=some (.slice e2)) (hi:P.info? e=some i) (hz:zT P e=some (sz,ag,z)) (hby:0<i.bytes) (hbl:i.bytes<=1048576)
 (h:dy w0 c) (hH:c.H=bt H) {xa:AV} {xs:List AV} (hx:VR c xa (a.eval x)) (he:ic H xa=some xs) (hsz:BP H sz xa=true):
 (¬c.U id->∀d,a.eval s= .slice none 0 0->xs.length * i.bytes<=iA->eU P o a w0 c id (.sl id xs.length) (fU c.H id (some (.row e sz d xs))))/\
 (∀b len d es,VR c (.sl b len) (a.eval s)->bt H b=some (.row e sz d es)->es.length=len->(len+xs.length) * i.bytes<=iA->eU P o a w0 c id (.sl b (len+xs.length)) (fU c.H b (some (.row e sz d (es++xs))))):=by
 obtain⟨i',v,hi',hz0,h1,hg,hk',hc,hlz,hpos,hone,hv,hfit⟩:=jT hz
 rw[hi] at hi'
 cases hi'
 obtain⟨ad,k,hxv,hrow⟩:=pM h hH hx he hsz
 have hvs:v.cells.size=sz:=by simp[hc,hlz]
 -- the cells that come behind
 have hnews:∃news:List Value,news.length=xs.length * sz/\(∀w:World,w.heap=c.w.heap->(Builtin.firstCells sz xs.length (.slice ad xs.length k)).run P w= .ok news.toArray w)/\(∀u∈news,u.oneCell'=true)/\
  (xs≠[]->∃adr,ad=some adr/\∀j u,news[j]?=some u->c.w.cell? (adr.add j)=some u)/\
  ∀i,i<xs.length->∃v:Value,v.cells.size=sz/\(∀j,j<sz->news[i * sz+j]?=v.cells[j]?)/\(∀(j:Nat) (x:Value),v.cells[j]?=some x->x.oneCell'=true)/\VR c (xs.getD i .any) v:=by
  rcases hrow with rfl|⟨blk,off,rfl,hr⟩
  ·refine⟨[],by simp,fun w _=> ?_,by simp,fun h=>absurd rfl h,by simp⟩
   cases ad<;>simp[Builtin.firstCells,loadCells,loadCellsFrom]
  ·obtain⟨news,n1,n2,n3,n4⟩:=lR hr
   have hcell:∀j u,news[j]?=some u->c.w.cell? ((⟨blk,off,none⟩:Addr).add j)=some u:=by
    intro j u hu
    rw[Addr.add_lit,n2 j (List.getElem?_eq_some_iff.1 hu).1,hu]
   refine⟨news,n1,fun w hw=> ?_,n3,fun _=>⟨_,rfl,hcell⟩,n4⟩
   refine run_firstCells_some w sz xs.length _ _ _ news n1 fun j u hu=> ?_
   rw[<-hcell j u hu]
   exact World.cell?_of_block (by rw[hw])
 obtain⟨news,n1,n2,n3,n4,n5⟩:=hnews
 have hcall:∀{r:Value} {W:World},(Builtin.append_ #[t,t] o.type #[a.eval s, .slice ad xs.length k]).run P c.w= .ok r W->(execOp a.eval o).run P c.w= .ok (.value r) W:=
  fun hr=>rT ho ht ht2 (by rw[hxv];exact hr)
 have hlenle:∀n:Nat,n * i.bytes<=iA->n<=175921860444160:=fun n hn=>Nat.le_trans (Nat.le_mul_of_pos_right n hby) hn
 constructor
 ·intro hid d hs hb
  have hle:=hlenle _ hb
  by_cases h0:xs=[]
  ·subst h0
   intro K Q hK
   unfold Oper.wp
   rw[hcall (r:= .slice none 0 0) (W:=c.w) (by rw[hs];exact mu ht hi ad k c.w),Oper.upon_value]
   obtain⟨p1,p2⟩:=h.JM (b:=id) (e:=e) (sz:=sz) d hpos hid
   refine hK _ _ _ p1 p2 ?_
   rw[VR]
   refine⟨.inr rfl,none,0,rfl,fun e' sz' d' es he=> ?_⟩
   simp only[j6,dV,Option.some.injEq,fH.row.injEq] at he
   obtain⟨rfl,rfl,rfl,rfl⟩:=he
   exact⟨Nat.le_refl _,fun _=> .inl ⟨by simp[j6],rfl,rfl⟩⟩
  ·obtain⟨adr,rfl,hcell⟩:=n4 h0
   have hpos':0<xs.length:=List.length_pos_iff.2 h0
   have hr:=run_append_nil (P:=P) c.w t o.type e i v ht hi hz0 adr xs.length k news (by rw[h1];exact n1) hcell hpos' (by omega) (by unfold iA at hb;omega)
   have hge:=grownCap_ge c.w xs.length 0 e
   have harr:(news.toArray++Builtin.zeroCells v.cells (grownCap c.w xs.length 0 e - xs.length)).size=grownCap c.w xs.length 0 e * sz:=by
    simp only[Array.size_append,List.size_toArray,size_zeroCells,hvs,n1,<-Nat.add_mul]
    congr 1
    omega
   refine jZ d (es:=xs) (v:= .slice (some ⟨c.w.heap.size,0,none⟩) xs.length (grownCap c.w xs.length 0 e)) h hid hpos (fun he=> .inr (hxt he)) (W:=c.w.drew.alloc (.cells (news.toArray++Builtin.zeroCells v.cells (grownCap c.w xs.length 0 e - xs.length)) e)) rfl rfl rfl rfl (hcall (by rw[hs];exact hr)) ?_ ?_ ?_
   ·rw[harr];exact Nat.mul_le_mul_right _ hge
   ·intro m hm
    obtain⟨u,u1,u2,u3,u4⟩:=n5 m hm
    exact⟨u,u1,fun j hj=>(zH n1 m j hm hj _).trans (u2 j hj),u3,u4⟩
   ·intro c' hU hρ hHid
    rw[VR]
    refine⟨hU,_,_,rfl,fun e' sz' d' es he=> ?_⟩
    rw[hHid] at he
    simp only[Option.some.injEq,fH.row.injEq] at he
    obtain⟨rfl,rfl,rfl,rfl⟩:=he
    exact⟨Nat.le_refl _,fun _=> .inr ⟨_,_,_,hρ,rfl,hge,by rw[harr];exact Nat.le_refl _,grownCap_le_maxLen _ _ _ _ (by unfold maxLen;omega),hpos⟩⟩
 ·intro b len d es hsv hHb hl hb
  have hle:=hlenle _ hb
  rw[<-hH] at hHb
  obtain⟨hU,_,hrw⟩:=h.BC b _ _ _ _ hHb hpos
  rw[VR] at hsv
  obtain⟨_,ads,cap,hsv,hliv⟩:=hsv
  obtain⟨_,hliv⟩:=hliv _ _ _ _ hHb
  have hliv:=hliv hl
  by_cases h0:xs=[]
  ·subst h0
   have hsame:fU c.H b (some (.row e sz d (es++[])))=c.H:=by
    funext y
    by_cases hy:y=b
    ·subst hy;simp[hHb]
    ·exact eV _ _ hy
   rw[hsame]
   have hvr:VR c (.sl b (len+([]:List AV).length)) (a.eval s):=by
    rw[VR]
    refine⟨hU,ads,cap,by simpa using hsv,fun e' sz' d' es' he'=> ?_⟩
    rw[hHb] at he'
    simp only[Option.some.injEq,fH.row.injEq] at he'
    obtain⟨rfl,rfl,rfl,rfl⟩:=he'
    exact⟨by simp[hl],fun _=>by simpa using hliv⟩
   rcases hliv with⟨hρ0,rfl,rfl⟩|⟨blk,off,z',hρ,rfl,hcap,hcz,hcm,_⟩
   ·rcases hrw with⟨_,hes⟩|⟨_,_,_,hρ',_⟩
    ·subst hes
     simp only[List.length_nil] at hl
     subst hl
     refine cR h (hcall (r:= .slice none 0 0) (by rw[hsv];exact mu ht hi ad k c.w)) ?_
     rw[hsv] at hvr
     exact hvr
    ·rw[hρ0] at hρ';cases hρ'
   ·rcases hrw with⟨hρ',_⟩|⟨blk1,off1,z1,hρ1,hlow,⟨arr,harr,hsz'⟩,hlen,hrow'⟩
    ·rw[hρ] at hρ';cases hρ'
    rw[hρ] at hρ1;cases hρ1
    have hn0:news=[]:=List.eq_nil_of_length_eq_zero (by simp[n1])
    subst hn0
    have hr:=pA (P:=P) (ty:=o.type) ht hi c.w blk off len cap arr harr ad 0 k [] (by simpa[h1] using n2 c.w rfl) (by simp) (by simpa using hcap) (by rw[h1];simp;rw[<-hl];omega)
    simp only[List.append_nil,List.length_nil,Nat.add_zero,List.take_append_drop,Array.toArray_toList] at hr
    rw[setRow_self c.w blk arr e (0,0) harr] at hr
    refine cR h (hcall (r:= .slice (some ⟨blk,off,none⟩) len cap) (by rw[hsv];exact hr)) ?_
    rw[hsv] at hvr
    exact hvr
  ·obtain⟨adr,rfl,hcell⟩:=n4 h0
   have hpos':0<xs.length:=List.length_pos_iff.2 h0
   -- the row laid anew
   have anew:∀(olds:List Value) (iB:Nat),iB<len+xs.length->olds.length=len * sz->(∀m,m<es.length->∃u:Value,u.cells.size=sz/\(∀j,j<sz->olds[m * sz+j]?=u.cells[j]?)/\(∀(j:Nat) (x:Value),u.cells[j]?=some x->x.oneCell'=true)/\VR c (es.getD m .any) u)->
    (Builtin.append_ #[t,t] o.type #[a.eval s, .slice (some adr) xs.length k]).run P c.w= .ok (.slice (some ⟨c.w.heap.size,0,none⟩) (len+xs.length) (grownCap c.w (len+xs.length) iB e)) (c.w.drew.alloc (.cells (olds.toArray++news.toArray++Builtin.zeroCells v.cells (grownCap c.w (len+xs.length) iB e - (len+xs.length))) e))->
    eU P o a w0 c id (.sl b (len+xs.length)) (fU c.H b (some (.row e sz d (es++xs)))):=by
    intro olds iB hold hol hoc hr K Q hK
    unfold Oper.wp
    rw[hcall hr,Oper.upon_value]
    have hge:=grownCap_ge c.w (len+xs.length) iB e
    have harr:(olds.toArray++news.toArray++Builtin.zeroCells v.cells (grownCap c.w (len+xs.length) iB e - (len+xs.length))).size=grownCap c.w (len+xs.length) iB e * sz:=by
     simp only[Array.size_append,List.size_toArray,size_zeroCells,hvs,n1,hol,<-Nat.add_mul]
     congr 1
     omega
    have hblk:(c.w.drew.alloc (.cells (olds.toArray++news.toArray++Builtin.zeroCells v.cells (grownCap c.w (len+xs.length) iB e - (len+xs.length))) e)).heap[c.w.heap.size]?=some (.cells (olds.toArray++news.toArray++Builtin.zeroCells v.cells (grownCap c.w (len+xs.length) iB e - (len+xs.length))) e):=heap_alloc_new c.w.drew (.cells (olds.toArray++news.toArray++Builtin.zeroCells v.cells (grownCap c.w (len+xs.length) iB e - (len+xs.length))) e)
    obtain⟨p1,p2⟩:=kg (id:=id) (h.put (b:=b) (e:=e) (sz:=sz) d (es:=es++xs) (w':=c.w.drew.alloc (.cells (olds.toArray++news.toArray++Builtin.zeroCells v.cells (grownCap c.w (len+xs.length) iB e - (len+xs.length))) e)) (blk:=c.w.heap.size) (o:=0) (z:=grownCap c.w (len+xs.length) iB e * sz) hpos
     (.inr ⟨_,_,_,hHb, .inr (by simp;omega)⟩) (.inl rfl) rfl rfl rfl (by simp) (fun m hm _=>heap_alloc_old c.w.drew _ m hm) hblk ⟨by rw[harr];simp,fun he=>⟨rfl, .inr (hxt he)⟩⟩ (by rw[List.length_append,hl];exact Nat.mul_le_mul_right _ hge) (fun m hm=>by
      simp only[List.length_append] at hm
      by_cases hme:m<es.length
      ·obtain⟨u,u1,u2,u3,u4⟩:=hoc m hme
       have hb2:m * sz+sz<=len * sz:=by rw[<-Nat.succ_mul,<-hl];exact Nat.mul_le_mul_right _ hme
       refine⟨u,⟨u1,fun j hj=> ?_,u3⟩,by simpa[List.getD,List.getElem?_append,hme] using u4⟩
       rw[cell_of_row _ _ _ _ e (0,0) hblk,<-u2 j hj]
       simp only[Nat.zero_add]
       rw[Array.append_assoc,Array.getElem?_append,if_pos (by simp[hol];omega)]
       simp
      ·obtain⟨u,u1,u2,u3,u4⟩:=n5 (m - es.length) (by omega)
       have hb2:(m - es.length) * sz+sz<=xs.length * sz:=by rw[<-Nat.succ_mul];exact Nat.mul_le_mul_right _ (by omega)
       have hb3:m * sz=len * sz+(m - es.length) * sz:=by rw[<-Nat.add_mul,<-hl];congr 1;omega
       refine⟨u,⟨u1,fun j hj=> ?_,u3⟩,by simpa[List.getD,List.getElem?_append,hme] using u4⟩
       rw[cell_of_row _ _ _ _ e (0,0) hblk,<-u2 j hj]
       simp only[Nat.zero_add]
       rw[Array.append_assoc,Array.getElem?_append,if_neg (by simp[hol];omega),Array.getElem?_append,if_pos (by simp[hol,n1];omega)]
       simp[hol]
       congr 1
       omega)) hU
    refine hK _ _ _ p1 p2 ?_
    rw[VR]
    refine⟨.inl hU,_,_,rfl,fun e' sz' d' es' he'=> ?_⟩
    simp only[j6,dV,Option.some.injEq,fH.row.injEq] at he'
    obtain⟨rfl,rfl,rfl,rfl⟩:=he'
    exact⟨by simp[hl],fun _=> .inr ⟨_,_,_,by simp[j6],rfl,hge,Nat.le_refl _,grownCap_le_maxLen _ _ _ _ (by unfold maxLen;omega),hpos⟩⟩
   rcases hliv with⟨hρ0,rfl,rfl⟩|⟨blk,off,z',hρ,rfl,hcap,hcz,hcm,_⟩
   ·rcases hrw with⟨_,hes⟩|⟨_,_,_,hρ',_⟩
    ·subst hes
     simp only[List.length_nil] at hl
     subst hl
     simp only[Nat.zero_add] at anew hb hle ⊢
     have hr:=run_append_nil (P:=P) c.w t o.type e i v ht hi hz0 adr xs.length k news (by rw[h1];exact n1) hcell hpos' (by omega) (by unfold iA at hb;omega)
     exact anew [] 0 hpos' (by simp) (by simp) (by rw[hsv];simpa using hr)
    ·rw[hρ0] at hρ';cases hρ'
   ·rcases hrw with⟨hρ',_⟩|⟨blk1,off1,z1,hρ1,hlow,⟨arr,harr,hsz'⟩,hlen,hrow'⟩
    ·rw[hρ] at hρ';cases hρ'
    rw[hρ] at hρ1;cases hρ1
    by_cases hroom:len+xs.length<=cap
    ·have hfit2:len * sz+news.length<=z':=by
      rw[n1,<-Nat.add_mul];exact Nat.le_trans (Nat.mul_le_mul_right _ hroom) hcz
     have hr:=pA (P:=P) (ty:=o.type) ht hi c.w blk off len cap arr harr (some adr) xs.length k news (by simpa[h1] using n2 c.w rfl) n3 hroom (by rw[h1];omega)
     rw[h1] at hr
     intro K Q hK
     unfold Oper.wp
     rw[hcall (by rw[hsv];exact hr),Oper.upon_value]
     have hblk:=setRow_heap c.w blk arr (arr.toList.take (off+len * sz)++news++arr.toList.drop (off+len * sz+news.length)).toArray e (0,0) harr
     have hcellm:∀m,(arr.toList.take (off+len * sz)++news++arr.toList.drop (off+len * sz+news.length)).toArray[m]?=
      if off+len * sz<=m/\m<off+len * sz+news.length then news[m - (off+len * sz)]? else arr[m]?:=by
      intro m
      simp only[List.getElem?_toArray,List.append_assoc,List.getElem?_append,List.length_take,Array.length_toList]
      have hmin:min (off+len * sz) arr.size=off+len * sz:=by omega
      rw[hmin]
      by_cases q1:m<off+len * sz
      ·rw[if_pos q1,if_neg (by omega)];simp[q1]
      ·rw[if_neg q1]
       by_cases q2:m<off+len * sz+news.length
       ·rw[if_pos (by omega),if_pos ⟨by omega,q2⟩]
       ·rw[if_neg (by omega),if_neg (by omega),List.getElem?_drop]
        simp
        congr 1
        omega
     obtain⟨p1,p2⟩:=kg (id:=id) (h.put (b:=b) (e:=e) (sz:=sz) d (es:=es++xs) (w':=c.w.setRow blk (arr.toList.take (off+len * sz)++news++arr.toList.drop (off+len * sz+news.length)).toArray) (blk:=blk) (o:=off) (z:=z') hpos
      (.inr ⟨_,_,_,hHb, .inr (by simp;omega)⟩) (.inr ⟨_,_,_,hHb,hρ⟩) rfl rfl rfl (by simp) (fun m _ hne=>setRow_other c.w blk m _ hne) hblk ⟨by simp;omega,fun he=>⟨(hsz'.2 he).1, .inr (hxt he)⟩⟩ (by rw[List.length_append,Nat.add_mul,hl,<-n1];exact hfit2) (fun m hm=>by
       simp only[List.length_append] at hm
       by_cases hme:m<es.length
       ·obtain⟨u,⟨u1,u2,u3⟩,u4⟩:=eC hrow' m hme
        have hb2:m * sz+sz<=len * sz:=by rw[<-Nat.succ_mul,<-hl];exact Nat.mul_le_mul_right _ hme
        refine⟨u,⟨u1,fun j hj=> ?_,u3⟩,by simpa[List.getD,List.getElem?_append,hme] using u4⟩
        rw[cell_of_row _ _ _ _ e (0,0) hblk,hcellm,if_neg (by omega),<-u2 j hj,cell_of_row c.w blk _ arr e (0,0) harr]
       ·obtain⟨u,u1,u2,u3,u4⟩:=n5 (m - es.length) (by omega)
        have hb2:(m - es.length) * sz+sz<=xs.length * sz:=by rw[<-Nat.succ_mul];exact Nat.mul_le_mul_right _ (by omega)
        have hb3:m * sz=len * sz+(m - es.length) * sz:=by rw[<-Nat.add_mul,<-hl];congr 1;omega
        refine⟨u,⟨u1,fun j hj=> ?_,u3⟩,by simpa[List.getD,List.getElem?_append,hme] using u4⟩
        rw[cell_of_row _ _ _ _ e (0,0) hblk,hcellm,if_pos (by omega),<-u2 j hj]
        congr 1
        omega)) hU
     refine hK _ _ _ p1 p2 ?_
     rw[VR]
     refine⟨.inl hU,_,_,rfl,fun e' sz'' d' es' he'=> ?_⟩
     simp only[j6,dV,Option.some.injEq,fH.row.injEq] at he'
     obtain⟨rfl,rfl,rfl,rfl⟩:=he'
     exact⟨by simp[hl],fun _=> .inr ⟨_,_,_,by simp[j6],rfl,hroom,hcz,hcm,hpos⟩⟩
    ·obtain⟨olds,q1,q2,q3,q4⟩:=lR hrow'
     have holds:∀j u,olds[j]?=some u->c.w.cell? ((⟨blk,off,none⟩:Addr).add j)=some u:=by
      intro j u hu
      rw[Addr.add_lit,q2 j (List.getElem?_eq_some_iff.1 hu).1,hu]
     have hr:=run_append_grow (P:=P) c.w t o.type e i v ht hi hz0 ⟨blk,off,none⟩ len cap olds (by rw[h1,<-hl];exact q1) holds adr xs.length k news (by rw[h1];exact n1) hcell (by omega) (by omega) (w5 (by omega) hb hbl)
     exact anew olds cap (by omega) (by rw[<-hl];exact q1) (fun m hm=>by
      obtain⟨u,u1,u2,u3,u4⟩:=q4 m hm
      exact⟨u,u1,u2,u3,u4⟩) (by rw[hsv];exact hr)
end
end
section
section
variable {P:Program} {o:Oper} {a:Act} {w0:World} {c:Cx} {id:Nat}
theorem zZ (off:Nat):∀(l:List Value) (k:Nat) (cells:Array Value),((l.zipIdx k).foldl (fun cs (x:Value×Nat)=>cs.setIfInBounds (off+x.2) x.1) cells).size=cells.size/\
 ∀m,m<cells.size->((l.zipIdx k).foldl (fun cs (x:Value×Nat)=>cs.setIfInBounds (off+x.2) x.1) cells)[m]?=if off+k<=m/\m<off+k+l.length then l[m - (off+k)]? else cells[m]?
 |[],k,cells=>by
  refine⟨rfl,fun m _=> ?_⟩
  rw[if_neg (by simp)];rfl
 |v::l,k,cells=>by
  obtain⟨h1,h2⟩:=zZ off l (k+1) (cells.setIfInBounds (off+k) v)
  simp only[List.zipIdx_cons,List.foldl_cons]
  refine⟨by rw[h1];simp,fun m hm=> ?_⟩
  rw[h2 m (by simpa using hm)]
  by_cases q1:off+(k+1)<=m/\m<off+(k+1)+l.length
  ·rw[if_pos q1,if_pos (by simp;omega),show m - (off+k)=(m - (off+(k+1)))+1 by omega,List.getElem?_cons_succ]
  ·rw[if_neg q1,Array.getElem?_setIfInBounds]
   by_cases q2:off+k=m
   ·subst q2;rw[if_pos rfl,if_pos hm,if_pos (by simp)];simp
   ·rw[if_neg q2,if_neg (by simp;omega)]
theorem wY (off:Nat) (v:Value) (cells:Array Value):(v.cells.zipIdx.foldl (fun cs (x:Value×Nat)=>cs.setIfInBounds (off+x.2) x.1) cells).size=cells.size/\
 ∀m,m<cells.size->(v.cells.zipIdx.foldl (fun cs (x:Value×Nat)=>cs.setIfInBounds (off+x.2) x.1) cells)[m]?=if off<=m/\m<off+v.cells.size then v.cells[m - off]? else cells[m]?:=by
 have h:=zZ off v.cells.toList 0 cells
 have e:v.cells.zipIdx.foldl (fun cs (x:Value×Nat)=>cs.setIfInBounds (off+x.2) x.1) cells=(v.cells.toList.zipIdx 0).foldl (fun cs (x:Value×Nat)=>cs.setIfInBounds (off+x.2) x.1) cells:=by
  rw[<-Array.foldl_toList,Array.toList_zipIdx]
 rw[e]
 refine⟨h.1,fun m hm=> ?_⟩
 rw[h.2 m hm]
 simp
inductive tP (c:Cx) (place:Nat->Option (Nat×Nat)):List (Nat×Value)->List (Nat×Nat×AV)->Prop
 |nil:tP c place [] []
 |cons {i:Nat} {v:Value} {off sz:Nat} {x:AV} {ps:List (Nat×Value)} {qs:List (Nat×Nat×AV)}:place i=some (off,sz)->VR c x v->tP c place ps qs->tP c place ((i,v)::ps) ((off,sz,x)::qs)
theorem HV {place:Nat->Option (Nat×Nat)} {ps:List (Nat×Value)} {qs:List (Nat×Nat×AV)} (hp:tP c place ps qs):∀{cells:Array Value} {acs rs:List AV},cu c acs cells.toList->sK acs qs=some rs->
 ∃cells',Instr.fill place cells ps=some cells'/\cu c rs cells'.toList:=by
 induction hp with
 |nil=>
  intro cells acs rs h hf
  simp only[sK,Option.some.injEq] at hf
  subst hf
  exact⟨cells,rfl,h⟩
 |@cons i v off sz x ps qs hpl hv _ ih=>
  intro cells acs rs h hf
  simp only[sK] at hf
  cases hc:cellsOf x with
  |none=>rw[hc] at hf;simp at hf
  |some cs=>
   rw[hc] at hf
   simp only[Option.ite_none_right_eq_some] at hf
   obtain⟨⟨h1,h2⟩,hf⟩:=hf
   obtain⟨hvs,_⟩:=hv.cells hc
   have hvl:=hvs.length
   have hcl:=h.length
   simp at hvl hcl
   obtain⟨g1,g2⟩:=wY off v cells
   have hnew:cu c (ZK acs off cs) (v.cells.zipIdx.foldl (fun cs (x:Value×Nat)=>cs.setIfInBounds (off+x.2) x.1) cells).toList:=by
    have e:(v.cells.zipIdx.foldl (fun cs (x:Value×Nat)=>cs.setIfInBounds (off+x.2) x.1) cells).toList=cells.toList.take off++v.cells.toList++cells.toList.drop (off+cs.length):=by
     apply List.ext_getElem?
     intro m
     by_cases hm:m<cells.size
     ·have:=g2 m hm
      rw[Array.getElem?_toList,this]
      simp only[List.append_assoc,List.getElem?_append,List.length_take,Array.length_toList]
      have hmin:min off cells.size=off:=by omega
      rw[hmin]
      by_cases q1:m<off
      ·rw[if_pos q1,if_neg (by omega)];simp[q1]
      ·rw[if_neg q1]
       by_cases q2:m<off+v.cells.size
       ·rw[if_pos ⟨by omega,q2⟩,if_pos (by omega)];simp
       ·rw[if_neg (by omega),if_neg (by omega),List.getElem?_drop]
        simp
        congr 1
        omega
     ·rw[List.getElem?_eq_none (by simp only[Array.length_toList,g1];omega),List.getElem?_eq_none]
      simp only[List.length_append,List.length_take,Array.length_toList,List.length_drop]
      omega
    rw[e]
    unfold ZK
    exact cu.append (h.drop _) (cu.append hvs (h.take _))
   obtain⟨cells',k1,k2⟩:=ih hnew hf
   refine⟨cells', ?_,k2⟩
   simp only[Instr.fill,hpl]
   rw[if_neg (by simp;omega)]
   exact k1
theorem uU {t:TypeId} {parts:Array (Nat×Operand)} {it:TypeInfo} {z:Value} {place:Nat->Option (Nat×Nat)} {qs:List (Nat×Nat×AV)} {rs:List AV} (ho:o.op= .build t parts) (hi:P.info? t=some it) (hz:it.zero=some z)
 (hplace:(∃n e ie,P.underlying t=some (.array n e)/\P.info? e=some ie/\place=fun i=>some (i * ie.size,ie.size))\/(∃fs places,P.underlying t=some (.struct fs)/\fs.toList.mapM (fun f=>(P.info? f.type).map fun i=>(f.offset,i.size))=some places/\place=fun i=>places.toArray[i]?))
 (h:dy w0 c) (hp:tP c place (parts.map fun(i,x)=>(i,a.eval x)).toList qs) (hf:sK (z.cells.toList.map .sc) qs=some rs):eU P o a w0 c id (.agg rs) c.H:=by
 obtain⟨cells',k1,k2⟩:=HV hp (cu.sc _) hf
 refine cR (v:= .agg cells') h ?_ (by rw[VR];exact⟨cells',rfl,k2⟩)
 unfold execOp
 simp only[ho,Sem.run_bind,Sem.run_pure]
 rw[run_build c.w t _ cells' ?_]
 ·rfl
 ·unfold Program.built
  rcases hplace with⟨n,e,ie,h1,h2,h3⟩|⟨fs,places,h1,h2,h3⟩
  ·simp only[hi,h1,hz,h2];rw[h3] at k1;exact k1
  ·simp only[hi,h1,hz,h2];rw[h3] at k1;exact k1
theorem wZ {sz n:Nat} {ag:Bool}:∀{ps:List (Nat×Value)} {qs:List (Nat×AV)} {arr:Array Value} {es:List AV},ps.length=qs.length->(∀(k:Nat) (p:Nat×Value) (q:Nat×AV),ps[k]?=some p->qs[k]?=some q->p.1=q.1/\VR c q.2 p.2)->
 qs.all (fun p=>decide (p.1<n)&&fits ag sz p.2)=true->es.length=n->arr.size=n * sz->
 (∀i,i<n->∃u:Value,u.cells.size=sz/\(∀j,j<sz->arr[i * sz+j]?=u.cells[j]?)/\(∀(j:Nat) (x:Value),u.cells[j]?=some x->x.oneCell'=true)/\VR c (es.getD i .any) u)->
 ∃arr',Instr.fill (fun i=>some (i * sz,sz)) arr ps=some arr'/\arr'.size=n * sz/\(qs.foldl (fun l p=>l.set p.1 p.2) es).length=n/\
  ∀i,i<n->∃u:Value,u.cells.size=sz/\(∀j,j<sz->arr'[i * sz+j]?=u.cells[j]?)/\(∀(j:Nat) (x:Value),u.cells[j]?=some x->x.oneCell'=true)/\VR c ((qs.foldl (fun l p=>l.set p.1 p.2) es).getD i .any) u
 |[],[],arr,es,_,_,_,hl,hs,hel=>⟨arr,rfl,hs,hl,hel⟩
 |[],_::_,_,_,h,_,_,_,_,_=>by simp at h
 |_::_,[],_,_,h,_,_,_,_,_=>by simp at h
 |(i,v)::ps,(i',x)::qs,arr,es,hlen,hpq,hall,hl,hs,hel=>by
  obtain⟨hi,hv⟩:=hpq 0 _ _ rfl rfl
  simp only at hi hv
  subst hi
  simp only[List.all_cons,Bool.and_eq_true,decide_eq_true_eq] at hall
  obtain⟨⟨hin,hfit⟩,hall⟩:=hall
  obtain⟨f1,f2⟩:=w4 hfit hv
  obtain⟨g1,g2⟩:=wY (i * sz) v arr
  have hisz:i * sz+sz<=n * sz:=by rw[<-Nat.succ_mul];exact Nat.mul_le_mul_right _ hin
  obtain⟨arr',k1,k2,k3,k4⟩:=wZ (ps:=ps) (qs:=qs) (arr:=v.cells.zipIdx.foldl (fun cs (x:Value×Nat)=>cs.setIfInBounds (i * sz+x.2) x.1) arr) (es:=es.set i x) (by simpa using hlen) (fun k p q hp hq=>hpq (k+1) p q (by simpa using hp) (by simpa using hq)) hall (by simpa using hl) (by rw[g1,hs]) (fun m hm=>by
   have hmsz:m * sz+sz<=n * sz:=by rw[<-Nat.succ_mul];exact Nat.mul_le_mul_right _ hm
   by_cases hmi:m=i
   ·subst hmi
    refine⟨v,f1,fun j hj=> ?_,f2,by simpa[List.getD,List.getElem?_set,hl,hm] using hv⟩
    rw[g2 _ (by omega),if_pos (by omega)]
    congr 1
    omega
   ·obtain⟨u,u1,u2,u3,u4⟩:=hel m hm
    refine⟨u,u1,fun j hj=> ?_,u3,by simpa[List.getD,List.getElem?_set,Ne.symm hmi] using u4⟩
    rw[g2 _ (by omega),if_neg ?_,u2 j hj]
    rcases Nat.lt_or_gt_of_ne hmi with hlt|hgt
    ·have:m * sz+sz<=i * sz:=by rw[<-Nat.succ_mul];exact Nat.mul_le_mul_right _ hlt
     omega
    ·have:i * sz+sz<=m * sz:=by rw[<-Nat.succ_mul];exact Nat.mul_le_mul_right _ hgt
     omega)
  refine⟨arr', ?_,k2,by simpa using k3,by simpa using k4⟩
  simp only[Instr.fill]
  rw[if_neg (by simp;omega)]
  exact k1
theorem zf {t e:TypeId} {sz:Nat} (hxt:e∈XT->sz=1) {n:Nat} {parts:Array (Nat×Operand)} {qs:List (Nat×AV)} {ag:Bool} {z:List Value} (ho:o.op= .buildSlice t n parts) (ht:P.underlying t=some (.slice e)) (hz:zT P e=some (sz,ag,z)) (hsm:n * sz<=16777216)
 (h:dy w0 c) (hid:¬c.U id) (hl:parts.size=qs.length) (hpq:∀(k:Nat) (p:Nat×Value) (q:Nat×AV),(parts.map fun(i,x)=>(i,a.eval x)).toList[k]?=some p->qs[k]?=some q->p.1=q.1/\VR c q.2 p.2)
 (hall:qs.all (fun p=>decide (p.1<n)&&fits ag sz p.2)=true) (d:AV):
 eU P o a w0 c id (.sl id n) (fU c.H id (some (.row e sz d (qs.foldl (fun l p=>l.set p.1 p.2) (List.replicate n (gO ag z)))))):=by
 obtain⟨i,v,hi,hz0,h1,hg,hk,hc,hlz,hpos,hone,hv,hfit⟩:=jT hz
 have hvs:v.cells.size=sz:=by simp[hc,hlz]
 have hgd:∀m,m<n->(List.replicate n (gO ag z)).getD m .any=gO ag z:=fun m hm=>by rw[List.getD,List.getElem?_replicate,if_pos hm];rfl
 obtain⟨arr',k1,k2,k3,k4⟩:=wZ (c:=c) (sz:=sz) (n:=n) (ag:=ag) (ps:=(parts.map fun(i,x)=>(i,a.eval x)).toList) (qs:=qs) (arr:=madeCells v.cells (n * sz)) (es:=List.replicate n (gO ag z)) (by simpa using hl) hpq hall (by simp) (size_madeCells _ _) (fun m hm=>
  ⟨v,hvs,fun j hj=>qV v.cells sz n m j hvs hm hj,hone,by rw[hgd m hm];exact hv c⟩)
 have hrun:(Instr.buildSlice t n (parts.map fun(i,x)=>(i,a.eval x))).run P c.w= .ok (.slice (some ⟨c.w.heap.size,0,none⟩) n n) (c.w.alloc (.cells arr' e)):=by
  generalize (parts.map fun(i,x)=>(i,a.eval x))=pv at k1 ⊢
  by_cases h0:n * sz=0
  ·have hn:n=0:=by rcases Nat.mul_eq_zero.1 h0 with h0|h0<;>omega
   subst hn
   have hm:madeCells v.cells (0 * sz)=#[]:=by simp[madeCells]
   rw[hm] at k1
   simp[Instr.buildSlice,run_underlying ht,sizeOf,typeInfo,hi,h1,k1,newRow,Array.range_zero']
  ·exact run_buildSlice c.w t e n pv arr' i v ht hi hz0 (by rw[h1];omega) (by rw[h1];exact h0) (by rw[h1];exact k1)
 refine jZ d (es:=qs.foldl (fun l p=>l.set p.1 p.2) (List.replicate n (gO ag z))) (arr:=arr') (v:= .slice (some ⟨c.w.heap.size,0,none⟩) n n) h hid hpos (fun he=> .inr (hxt he)) (W:=c.w.alloc (.cells arr' e)) rfl rfl rfl rfl ?_ ?_ ?_ ?_
 ·unfold execOp
  simp only[ho,Sem.run_bind,hrun,Result.andThen_ok,Sem.run_pure]
 ·rw[k3,k2];exact Nat.le_refl _
 ·intro m hm
  rw[k3] at hm
  obtain⟨u,u1,u2,u3,u4⟩:=k4 m hm
  exact⟨u,u1,u2,u3,u4⟩
 ·intro c' hU hρ hH
  rw[VR]
  refine⟨hU,_,_,rfl,fun e' sz' d' es he=> ?_⟩
  rw[hH] at he
  simp only[Option.some.injEq,fH.row.injEq] at he
  obtain⟨rfl,rfl,rfl,rfl⟩:=he
  refine⟨by rw[k3];exact Nat.le_refl _,fun _=> .inr ⟨_,_,_,hρ,rfl,Nat.le_refl _,by rw[k2];exact Nat.le_refl _, ?_⟩⟩
  have:n<=n * sz:=Nat.le_mul_of_pos_right n hpos
  unfold maxLen;omega
end
end
section
def AQ (place:Nat->Option (Nat×Nat)):List (Nat×Operand)->Option (List (Nat×Nat×eO))
 |[]=>some []
 |(i,x)::r=>match place i,cQ x,AQ place r with
  |some (off,sz),some y,some q=>some ((off,sz,y)::q)
  |_,_,_=>none
def AR:List (Nat×Operand)->Option (List (Nat×eO))
 |[]=>some []
 |(i,x)::r=>match cQ x,AR r with
  |some y,some q=>some ((i,y)::q)
  |_,_=>none
def nZ:List Operand->Option (List eO)
 |[]=>some []
 |x::r=>match cQ x,nZ r with
  |some y,some q=>some (y::q)
  |_,_=>none
def zcs (P:Program) (t:TypeId):Option (List Value):=(P.info? t).bind fun i=>i.zero.map fun z=>z.cells.toList
def qb (P:Program) (t:TypeId):Option (List (Nat×Nat) ⊕ Nat):=
 match P.underlying t with
 |some (.array _ e)=>(P.info? e).map fun i=> .inr i.size
 |some (.struct fs)=>(fs.toList.mapM fun f=>(P.info? f.type).map fun i=>(f.offset,i.size)).map .inl
 |_=>none
def placeOf:List (Nat×Nat) ⊕ Nat->Nat->Option (Nat×Nat)
 | .inl ps,i=>ps.toArray[i]?
 | .inr k,i=>some (i * k,k)
def vq:Option Operand->Option (Option eO)
 |none=>some none
 |some x=>(cQ x).map some
def L4 (P:Program) (f:TypeId->Option (List LK)):List Field->Nat->Option (List LK)
 |[],_=>some []
 |fl::r,off=>match f fl.type,kq P fl.type,L4 P f r (fl.offset+(kq P fl.type).getD 0) with
  |some l,some s,some q=>if l.length=s/\fl.offset=off/\fl.name≠ "_" then some (l++q) else none
  |_,_,_=>none
def zW (P:Program):Nat->TypeId->Option (List LK)
 |0,_=>none
 |k+1,t=>match P.underlying t with
  |some (.int _)=>some [.i]
  |some .bool=>some [.b]
  |some .string=>some [.s]
  |some (.struct fs)=>if P.stoodInHeld t then none else L4 P (zW P k) fs.toList 0
  |some (.array n e)=>match zW P k e,kq P e with
   |some l,some s=>if l.length=s then some (List.replicate n l).flatten else none
   |_,_=>none
  |_=>none
def AO (P:Program) (op:BinOp) (t:TypeId) (x y:eO):Option df:=
 match zW P 20 t with
 |some ks=>if P.eqGuardType P.depth t=true\/gX P t≠some true then none else(match op with| .eql=>some (.eqs false ks x y)| .neq=>some (.eqs true ks x y)|_=>none)
 |none=>none
def ZI:Option Operand->Bool
 |none=>true
 |some (.const (.int _ _))=>true
 |_=>false
def AA:TypeDesc->Option Bool
 | .int _=>some false
 | .string=>some true
 |_=>none
def u0 (P:Program) (t:TypeId):Option Bool:=(P.underlying t).bind AA
def eqv:Value->Value->Bool
 | .bool a, .bool b=>a==b
 | .int k a, .int k' b=>decide (k=k')&&decide (a=b)
 |_,_=>false
noncomputable def UW (v:Value) (l:List Value):Nat->Bool:=
 List.rec (motive:=fun _=>Nat->Bool) (fun n=>Nat.beq n 0) (fun u _ ih n=>match n with|0=>false|n+1=>eqv v u&&ih n) l
noncomputable def zU (P:Program) (t:TypeId):Option (Nat×Value):=
 match P.info? t,gX P t with
 |some i,some true=>if 256<i.size then match i.zero with
  |some (.agg cs)=>match cs.toList with
   |v::_=>if v.oneCell'&&UW v cs.toList i.size then some (i.size,v) else none
   |[]=>none
  |_=>none else none
 |_,_=>none
def SX:Value->Bool
 | .int .u8 n=>decide (n=0)
 |_=>false
noncomputable def PL (P:Program) (t:TypeId):Option Nat:=match P.underlying t,zT P t with
 |some (.array n e),some p=>if(n=24\/n=65)/\kq P e=some 1/\p.1=n/\p.2.2.all SX=true then some n else none
 |_,_=>none
noncomputable def rb (P:Program) (o:Oper):Option df:=
 match o.op with
 | .makeMap t r=>match P.underlying t with
  |some (.map kt _)=>if(u0 P kt).isSome&&ZI r then some (.SQ kt) else none
  |_=>none
 | .lookup t x k ok=>match P.underlying t,cQ x,cQ k with
  |some (.map kt e),some x,some k=>match u0 P kt,zT P e with
   |some str,some p=>some (.QU str p.2.1 p.2.2 ok x k)
   |_,_=>none
  |_,_,_=>none
 | .mapUpdate t x k y=>match P.underlying t,cQ x,cQ k,cQ y with
  |some (.map kt _),some x,some k,some y=>(u0 P kt).map fun str=> .KT str x k y
  |_,_,_,_=>none
 | .insert t x k y=>match P.underlying t,cQ x,cQ k,cQ y with
  |some (.map kt _),some x,some k,some y=>(u0 P kt).map fun str=> .KT str x k y
  |_,_,_,_=>none
 | .typeAssert x _ t ok=>match P.underlying t,zT P t,cQ x with
  |some (.interface _),_,_=>none
  |some _,some p,some x=>some (.ZN t ok p.2.1 p.2.2 x)
  |_,_,_=>none
 | .move x=>(cQ x).map .mv
 | .assign x=>(cQ x).map .mv
 | .pick k x y=>match cQ k,cQ x,cQ y with
  |some k,some x,some y=>some (.pick k x y)
  |_,_,_=>none
 | .alloc e=>match PL P e with
  |some n=>some (.R6 e n)
  |none=>match zU P e with
  |some p=>some (.yw e p.1 p.2)
  |none=>(zT P e).map fun p=> .alloc e p.1 p.2.1 p.2.2
 | .box e x=>match zU P e with
  |some p=>(cQ x).map (.box e p.1 true ·)
  |none=>match zT P e,cQ x with
   |some p,some x=>some (.box e p.1 p.2.1 x)
   |_,_=>none
 | .build t parts=>match(if parts.isEmpty&&(qb P t).isSome then zU P t else none) with
  |some p=>some (.HA p.1 p.2)
  |none=>match qb P t,zcs P t with
   |some pl,some z=>(AQ (placeOf pl) parts.toList).map (.U8 z ·)
   |_,_=>none
 | .buildSlice t n parts=>match P.underlying t with
  |some (.slice e)=>match zS P e,AR parts.toList with
   |some p,some q=>if n * p.1<=16777216 then some (.R8 e p.1 p.2.1 p.2.2 n q) else none
   |_,_=>none
  |_=>none
 | .load t x=>match gX P t,kq P t,cQ x with
  |some ag,some k,some x=>if ag=false/\k≠1 then none else some (.ld ag k x)
  |_,_,_=>none
 | .store t x y=>match gX P t,kq P t,cQ x,cQ y with
  |some ag,some k,some x,some y=>if ag=false/\k≠1 then none else some (.st ag k x y)
  |_,_,_,_=>none
 | .nilCheck x=>(cQ x).map .UC
 | .binOp op t x y _=>match P.underlying t,cQ x,cQ y with
  |some (.int _),some x,some y=>some (.bin op x y)
  |some .bool,some x,some y=>(match op with| .eql=>some (.VB false x y)| .neq=>some (.VB true x y)|_=>none)
  |some .string,some x,some y=>(match op with| .eql=>some (.wU false x y)| .neq=>some (.wU true x y)| .add=>some (.HB .add x y)| .lss=>some (.HB .lss x y)|_=>none)
  |some (.pointer _),some x,some (.c (.pointer none))=>(match op with| .eql=>some (.JD false x)| .neq=>some (.JD true x)|_=>none)
  |some (.slice _),some x,some (.c (.slice none 0 0))=>(match op with| .eql=>some (.AW false x)| .neq=>some (.AW true x)|_=>none)
  |some (.struct _),some x,some y=>AO P op t x y
  |some (.array _ _),some x,some y=>AO P op t x y
  |_,_,_=>none
 | .unOp op _ x=>(cQ x).map (.un op ·)
 | .convert s t x=>match P.underlying s,P.underlying t,cQ x with
  |some (.int _),some (.int k),some x=>some (.V0 k x)
  |some (.slice e),some .string,some x=>(match P.underlying e with|some (.int .u8)=>some (.TA x)|_=>none)
  |_,_,_=>none
 | .fieldAddr s x f=>match P.underlying s,cQ x with
  |some (.struct fs),some x=>match fs[f]? with
   |some fl=>match kq P fl.type with
    |some (_+1)=>some (.fa fl.offset x)
    |_=>none
   |none=>none
  |_,_=>none
 | .indexAddr t x i=>match cQ x,cQ i with
  |some x,some i=>match P.underlying t with
   |some (.slice e)=>(kq P e).map fun k=> .ia k none x i
   |some (.array n e)=>match PL P t with
    |some m=>some (.TW m x i)
    |none=>(kq P e).map fun k=> .ia k (some n) x i
   |_=>none
  |_,_=>none
 | .field t x f=>match P.underlying t,cQ x with
  |some (.struct fs),some x=>match fs[f]? with
   |some fl=>match gX P fl.type,kq P fl.type with
    |some ag,some k=>if ag=false/\k≠1 then none else some (.V7 fl.offset k ag x)
    |_,_=>none
   |none=>none
  |_,_=>none
 | .index t x i=>match P.underlying t,cQ x,cQ i with
  |some (.array n e),some x,some i=>match gX P e,kq P e with
   |some ag,some k=>if ag=false/\k≠1 then none else some (.ix k ag n x i)
   |_,_=>none
  |some .string,some x,some i=>some (.WI x i)
  |_,_,_=>none
 | .makeSlice t l k=>match P.underlying t,cQ l,cQ k with
  |some (.slice e),some l,some k=>match zS P e,P.info? e with
   |some p,some i=>some (.T9 e p.1 i.bytes p.2.1 p.2.2 l k)
   |_,_=>none
  |_,_,_=>none
 | .slice t x (some y) none none=>match P.underlying t,cQ x,cQ y with
  |some (.slice e),some x,some y=>(kq P e).map fun k=> .RI k x (some y) none
  |some (.array _ _),some x,some y=>(PL P t).map fun m=> .UM m x y
  |_,_,_=>none
 | .slice t x none (some y) (some z)=>match P.underlying t,cQ x,cQ y,cQ z with
  |some (.slice e),some x,some y,some z=>(kq P e).map fun k=> .VI k x y z
  |_,_,_,_=>none
 | .slice t x lo hi none=>match P.underlying t,cQ x,vq lo,vq hi with
  |some (.slice e),some x,some lo,some hi=>(kq P e).map fun k=> .RI k x lo hi
  |_,_,_,_=>none
 | .extract x i=>(cQ x).map (.ext i ·)
 | .makeFunc f p q=>match nZ p.toList,nZ q.toList with
  |some p,some q=>some (.VF f p q)
  |_,_=>none
 | .makeInterface t x=>match P.underlying t,cQ x with
  |some (.interface _),_=>none
  |some _,some x=>some (.ZB t x)
  |_,_=>none
 | .call c=>match c.callee with
  | .builtin .len=>match c.args.toList,c.argTypes.toList with
   |[x],[t]=>match P.underlying t,cQ x with
    |some (.slice _),some x=>some (.len x)
    |some .string,some x=>some (.lens x)
    |some (.map _ _),some x=>some (.DO x)
    |_,_=>none
   |_,_=>none
  | .builtin .clear=>match c.args.toList,c.argTypes.toList with
   |[x],[t]=>match P.underlying t,cQ x with
    |some (.slice e),some x=>(zT P e).map fun p=> .PU p.1 p.2.1 p.2.2 x
    |_,_=>none
   |_,_=>none
  | .builtin .delete=>match c.args.toList,c.argTypes.toList with
   |[x,k],[t,_]=>match P.underlying t,cQ x,cQ k with
    |some (.map kt _),some x,some k=>(u0 P kt).map fun str=> .del str x k
    |_,_,_=>none
   |_,_=>none
  | .invoke r nm=>match cQ r,nZ c.args.toList with
   |some (.t n),some q=>some (.call (.m nm n) q)
   |_,_=>none
  | .builtin .append=>match c.args.toList,c.argTypes.toList with
   |[s,x],[t,t2]=>match P.underlying t,P.underlying t2,cQ s,cQ x with
    |some (.slice e),some (.slice _),some s,some x=>match zS P e,P.info? e with
     |some p,some i=>if 0<i.bytes/\i.bytes<=1048576 then some (.app e p.1 i.bytes p.2.1 p.2.2 s x) else none
     |_,_=>none
    |some (.slice e),some .string,some s,some x=>(match zS P e,P.info? e with
     |some (1,ag,z),some i=>if 0<i.bytes/\i.bytes<=1048576 then some (.K8 e i.bytes (gO ag z) s x) else none
     |_,_=>none)
    |_,_,_,_=>none
   |_,_=>none
  | .builtin .copy=>match c.args.toList,c.argTypes.toList with
   |[x,y],[t,_]=>match P.underlying t,cQ x,cQ y with
    |some (.slice e),some x,some y=>(kq P e).map fun k=> .P1 k x y
    |_,_,_=>none
   |_,_=>none
  | .value f=>match cQ f,nZ c.args.toList with
   |some f,some q=>some (.call f q)
   |_,_=>none
  |_=>none
 |_=>none
noncomputable def mq (P:Program) (o:Oper):Option df:=match rb P o with
 |some op=>some op
 |none=>some .bad
theorem sU {P:Program} {o:Oper} {op:df} (h:mq P o=some op):rb P o=some op\/op= .bad:=by
 unfold mq at h
 split at h
 ·rename_i x hx
  cases h
  exact .inl hx
 ·cases h
  exact .inr rfl
theorem qU {x:Operand} {v:Value} (h:cQ x=some (.c v)):x= .const v:=by
 cases x<;>simp[cQ] at h
 rw[h]
theorem du (H:Hp) (b:Nat) (k:fH):bt (dS H (some (b,k)))=fU (bt H) b (some k):=by
 funext x
 simp[dS,bt,fU]
section
variable {P:Program} {o:Oper} {a:Act} {w0:World} {c:Cx} {id:Nat} {fr:Fr} {H:Hp}
theorem uf (hF:FR c fr a.tmps) {place:Nat->Option (Nat×Nat)}:∀{ps:List (Nat×Operand)} {qs:List (Nat×Nat×eO)},AQ place ps=some qs->tP c place (ps.map fun(i,x)=>(i,a.eval x)) (SC fr qs)
 |[],qs,h=>by simp only[AQ,Option.some.injEq] at h;subst h;exact .nil
 |(i,x)::ps,qs,h=>by
  simp only[AQ] at h
  split at h
  ·rename_i off sz y q h1 h2 h3
   simp only[Option.some.injEq] at h
   subst h
   exact .cons h1 (gY hF h2) (uf hF h3)
  ·simp at h
theorem ug (hF:FR c fr a.tmps):∀{ps:List (Nat×Operand)} {qs:List (Nat×eO)},AR ps=some qs->ps.length=(F1 fr qs).length/\
 ∀(k:Nat) (p:Nat×Value) (q:Nat×AV),(ps.map fun(i,x)=>(i,a.eval x))[k]?=some p->(F1 fr qs)[k]?=some q->p.1=q.1/\VR c q.2 p.2
 |[],qs,h=>by simp only[AR,Option.some.injEq] at h;subst h;simp[F1]
 |(i,x)::ps,qs,h=>by
  simp only[AR] at h
  split at h
  ·rename_i y q h1 h2
   simp only[Option.some.injEq] at h
   subst h
   obtain⟨g1,g2⟩:=ug hF h2
   refine⟨by simp[F1,g1],fun k p q hp hq=> ?_⟩
   cases k with
   |zero=>
    simp[F1] at hp hq
    subst hp hq
    exact⟨rfl,gY hF h1⟩
   |succ k=>exact g2 k p q (by simpa using hp) (by simpa[F1] using hq)
  ·simp at h
theorem ju (hF:FR c fr a.tmps):∀{ps:List Operand} {qs:List eO},nZ ps=some qs->cu c (vl fr qs) (ps.map a.eval)
 |[],qs,h=>by simp only[nZ,Option.some.injEq] at h;subst h;simp only[vl,List.map_nil];rw[cu]
 |x::ps,qs,h=>by
  simp only[nZ] at h
  split at h
  ·rename_i y q h1 h2
   simp only[Option.some.injEq] at h
   subst h
   simp only[vl,List.map_cons]
   rw[cu]
   exact⟨_,_,rfl,gY hF h1,ju hF h2⟩
  ·simp at h
theorem rX {x:AV} {v:Value} {sz off:Nat} {e:AV} (h:dy w0 c) (hH:c.H=bt H) (hv:VR c x v) (hl:k9 H x=some (sz,e,off)):
 ∃blk o' u,v= .pointer (some ⟨blk,o'+off,none⟩)/\At c.w blk o' sz u/\VR c e u/\off<sz:=by
 cases x<;>simp only[k9,reduceCtorEq] at hl
 ·simp only[Option.some.injEq,Prod.mk.injEq] at hl
  obtain⟨rfl,rfl,rfl⟩:=hl
  rw[VR] at hv
  obtain⟨hi,ho,blk,o',rfl,_,hr⟩:=hv
  obtain⟨u,h1,h2⟩:=eC hr _ hi
  exact⟨blk,_,u,rfl,h1,by rw[uS _ hi];exact h2,ho⟩
 ·rename_i b len i off'
  cases hb:bt H b with
  |none=>rw[hb] at hl;simp at hl
  |some k=>
   obtain⟨e',sz',d,es⟩:=k
   rw[hb] at hl
   simp only[Option.ite_none_right_eq_some,Option.some.injEq,Prod.mk.injEq] at hl
   obtain⟨hlen,rfl,rfl,rfl⟩:=hl
   rw[VR] at hv
   obtain⟨_,hi,ad,rfl,hr⟩:=hv
   rw[<-hH] at hb
   obtain⟨_,hr⟩:=hr _ _ _ _ hb
   obtain⟨ho,blk,o',z,hρ,rfl⟩:=hr hlen
   obtain⟨_,_,hrow⟩:=h.BC b _ _ _ _ hb (by omega)
   rcases hrow with⟨h0,_⟩|⟨blk1,o1,z1,hρ1,_,_,_,hrow⟩
   ·rw[hρ] at h0;cases h0
   ·rw[hρ] at hρ1
    cases hρ1
    obtain⟨u,h1,h2⟩:=eC hrow i (by omega)
    exact⟨blk,_,u,rfl,h1,by rw[uS _ (by omega)];exact h2,ho⟩
end
end
end Go.cw
