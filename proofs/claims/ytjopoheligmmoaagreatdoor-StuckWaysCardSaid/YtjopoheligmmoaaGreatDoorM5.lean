import Derived.Test.YtjopoheligmmoaaGreatDoorM4
import Derived.MapKept
section
/- Maps, type assertions, great arrays of zeros: each step of ours is a step of the model's. -/
set_option linter.unusedSimpArgs false
set_option linter.unusedVariables false
namespace Go.cw
open Go.RowKit Go.MapKept
theorem TZ {str:Bool} {k k':Value} (h:DJ str k k'=some true):k=k':=by
 unfold DJ at h
 split at h
 ·split at h
  ·rename_i e
   simp only[Option.some.injEq,decide_eq_true_eq] at h
   rw[e,h]
  ·simp at h
 ·simp only[Option.some.injEq] at h
  rw[(bytes_beq _ _).1 h]
 ·simp at h
theorem xu {d:TypeDesc} {str t:Bool} {k k':Value} (hd:AA d=some str) (h:DJ str k k'=some t):Instr.sameNow d k k'=some t:=by
 unfold DJ at h
 split at h
 ·cases d<;>simp[AA] at hd
  split at h
  ·rename_i e
   simp only[Option.some.injEq] at h
   subst e
   simp only[Instr.sameNow,if_true,<-h]
   rfl
  ·simp at h
 ·cases d<;>simp[AA] at hd
  simpa[Instr.sameNow] using h
 ·simp at h
theorem qT {P:Program} {kt:TypeId} {d:TypeDesc} {str:Bool} {k:Value} (hu:P.underlying kt=some d) (hd:AA d=some str) (h:kZ str k=true) (e:Bool) (n:Nat) (w:World):(Instr.checkKey e (n+1) kt k).run P w= .ok () w:=by
 unfold Instr.checkKey
 simp only[Sem.run_bind,run_underlying hu,Result.andThen]
 cases d<;>simp[AA] at hd<;>subst hd<;>cases k<;>simp_all[kZ]
theorem LZ {a:AV} {k:Value} {v:AV} (h:uK a=some (k,v)):a=og k v:=by
 unfold uK at h
 split at h
 ·simp only[Option.some.injEq,Prod.mk.injEq] at h
  obtain⟨rfl,rfl⟩:=h
  rfl
 ·simp at h
def iE (c:Cx) (as:List AV) (ms:List MapEntry):Prop:=cu c as (ms.map fun m=> .tuple #[m.key,m.val])
theorem iE.of_map {c:Cx} {as:List AV} {ms:Array MapEntry} (h:VR c (.dI as) (NQ ms)):iE c as ms.toList:=by
 rw[VR] at h
 obtain⟨vs,h1,h2⟩:=h
 simp only[NQ,Value.tuple.injEq] at h1
 subst h1
 simpa[iE] using h2
theorem iE.UU {c:Cx} {as:List AV} {ms:Array MapEntry} (h:iE c as ms.toList):VR c (.dI as) (NQ ms):=by
 rw[VR]
 exact⟨_,rfl,by simpa[iE] using h⟩
theorem uL {c:Cx} {k:Value} {v:AV} {m:MapEntry}:VR c (og k v) (.tuple #[m.key,m.val])↔m.key=k/\VR c v m.val:=by
 unfold og
 rw[VR]
 constructor
 ·rintro⟨vs,h1,h2⟩
  simp only[Value.tuple.injEq] at h1
  subst h1
  simp only[cu] at h2
  obtain⟨a,l,e1,h3,b,l2,e2,h4,rfl⟩:=h2
  simp only[List.cons.injEq] at e1
  obtain⟨rfl,rfl⟩:=e1
  simp only[List.cons.injEq] at e2
  obtain⟨rfl,_⟩:=e2
  rw[VR] at h3
  exact⟨h3,h4⟩
 ·rintro⟨rfl,h⟩
  exact⟨_,rfl,by simp only[cu];exact⟨_,_,rfl,by rw[VR],_,_,rfl,h,rfl⟩⟩
theorem wD {c:Cx} {a:AV} {as:List AV} {m:MapEntry} {ms:List MapEntry}:iE c (a::as) (m::ms)↔VR c a (.tuple #[m.key,m.val])/\iE c as ms:=by
 simp only[iE,List.map_cons]
 rw[cu]
 constructor
 ·rintro⟨v,vs,h,h1,h2⟩
  simp only[List.cons.injEq] at h
  obtain⟨rfl,rfl⟩:=h
  exact⟨h1,h2⟩
 ·rintro⟨h1,h2⟩;exact⟨_,_,rfl,h1,h2⟩
theorem kK {c:Cx} {d:TypeDesc} {str:Bool} {k:Value} (hd:AA d=some str):∀{ents:List AV} {ms:List MapEntry} {i:Nat} {r:Option (Nat×AV)},iE c ents ms->fG str k ents i=some r->
 (r=none/\Instr.findNow d k ms i=some none)\/∃j v m,r=some (i+j,v)/\ents[j]?=some (og k v)/\ms[j]?=some m/\m.key=k/\VR c v m.val/\Instr.findNow d k ms i=some (some (i+j,m.val))
 |[],[],i,r,_,h=>by
  simp only[fG,Option.some.injEq] at h
  exact .inl ⟨h.symm,rfl⟩
 |a::as,m::ms,i,r,hE,h=>by
  obtain⟨hv1,hE1⟩:=wD.1 hE
  clear hE
  simp only[fG] at h
  split at h
  ·rename_i k' v ha
   have:=LZ ha
   subst this
   obtain⟨rfl,hv2⟩:=uL.1 hv1
   split at h
   ·rename_i hk
    simp only[Option.some.injEq] at h
    subst h
    have he:=TZ hk
    refine .inr ⟨0,v,m,rfl,by simp[og,he],rfl,he.symm,hv2, ?_⟩
    simp only[Instr.findNow,xu hd hk,Nat.add_zero]
   ·rename_i hk
    rcases kK hd hE1 h with⟨h1,h2⟩|⟨j,v',m',h1,h2,h3,h4,h5,h6⟩
    ·exact .inl ⟨h1,by simpa only[Instr.findNow,xu hd hk] using h2⟩
    ·refine .inr ⟨j+1,v',m',by rw[h1];congr 2;omega,by simpa using h2,by simpa using h3,h4,h5, ?_⟩
     rw[show i+(j+1)=i+1+j by omega]
     simpa only[Instr.findNow,xu hd hk] using h6
   ·simp at h
  ·simp at h
 |[],_::_,_,_,hE,_=>by simp[iE,cu] at hE
 |_::_,[],_,_,hE,_=>by simp[iE,cu] at hE
theorem lQ {c:Cx} {as:List AV} {ms:List MapEntry}:iE c as ms↔as.length=ms.length/\∀(i:Nat) (a:AV) (m:MapEntry),as[i]?=some a->ms[i]?=some m->VR c a (.tuple #[m.key,m.val]):=by
 induction as generalizing ms with
 |nil=>cases ms<;>simp[iE,cu]
 |cons a as ih=>
  cases ms with
  |nil=>simp[iE,cu]
  |cons m ms=>
   rw[wD,ih]
   simp only[List.length_cons,Nat.add_right_cancel_iff]
   constructor
   ·rintro⟨h1,h2,h3⟩
    refine⟨h2,fun i x y hx hy=> ?_⟩
    cases i with
    |zero=>simp at hx hy;subst hx hy;exact h1
    |succ i=>exact h3 i x y (by simpa using hx) (by simpa using hy)
   ·rintro⟨h2,h3⟩
    exact⟨h3 0 a m rfl rfl,h2,fun i x y hx hy=>h3 (i+1) x y (by simpa using hx) (by simpa using hy)⟩
theorem iE.push {c:Cx} {as:List AV} {ms:Array MapEntry} (h:iE c as ms.toList) {k:Value} {v:AV} {u:Value} {b:Nat} (hv:VR c v u):iE c (as++[og k v]) (ms.push { key:=k,val:=u,born:=b }).toList:=by
 rw[lQ] at h ⊢
 obtain⟨h1,h2⟩:=h
 refine⟨by simp at h1 ⊢;exact h1,fun i a m ha hm=> ?_⟩
 simp only[Array.toList_push,List.getElem?_append] at ha hm
 rw[h1] at ha
 split at ha
 ·rename_i hi;rw[if_pos hi] at hm;exact h2 i a m ha hm
 ·rename_i hi
  rw[if_neg hi] at hm
  cases hj:i - ms.toList.length with
  |zero=>rw[hj] at ha hm;simp at ha hm;subst ha hm;exact uL.2 ⟨rfl,hv⟩
  |succ j=>rw[hj] at ha;simp at ha
theorem iE.set {c:Cx} {as:List AV} {ms:Array MapEntry} (h:iE c as ms.toList) {i:Nat} {k:Value} {v:AV} {u:Value} (hv:VR c v u):iE c (as.set i (og k v)) (ms.modify i fun e=>{ e with key:=k,val:=u }).toList:=by
 rw[lQ] at h ⊢
 obtain⟨h1,h2⟩:=h
 refine⟨by simp at h1 ⊢;exact h1,fun j a m ha hm=> ?_⟩
 simp only[List.getElem?_set] at ha
 simp only[Array.getElem?_toList,Array.getElem?_modify] at hm
 by_cases hij:i=j
 ·subst hij
  rw[if_pos rfl] at ha
  split at ha
  ·simp only[Option.some.injEq] at ha
   simp only[if_true,Option.map_eq_some_iff] at hm
   obtain⟨m0,_,rfl⟩:=hm
   subst ha
   exact uL.2 ⟨rfl,hv⟩
  ·simp at ha
 ·rw[if_neg hij] at ha hm
  exact h2 j a m ha (by simpa using hm)
theorem iE.erase {c:Cx} {as:List AV} {ms:Array MapEntry} (h:iE c as ms.toList) {i:Nat} (hi:i<ms.size):iE c (as.eraseIdx i) (ms.eraseIdxIfInBounds i).toList:=by
 rw[lQ] at h ⊢
 obtain⟨h1,h2⟩:=h
 have e:(ms.eraseIdxIfInBounds i).toList=ms.toList.eraseIdx i:=by
  unfold Array.eraseIdxIfInBounds
  rw[dif_pos hi];simp
 rw[e]
 have hl:as.length=ms.size:=by simpa using h1
 refine⟨by rw[List.length_eraseIdx,List.length_eraseIdx,h1],fun j a m ha hm=> ?_⟩
 rw[List.getElem?_eraseIdx] at ha hm
 split at ha
 ·rename_i hj;rw[if_pos hj] at hm;exact h2 j a m ha hm
 ·rename_i hj;rw[if_neg hj] at hm;exact h2 (j+1) a m ha hm
section
variable {P:Program} {o:Oper} {a:Act} {w0:World} {c:Cx} {id:Nat} {fr:Fr} {H:Hp} {lop:df} {r:AV} {u:Option (Nat×fH)}
theorem mS {x:AV} {v:Value} {b:Nat} {e:TypeId} {d:AV} {es:List AV} (h:dy w0 c) (hH:c.H=bt H) (hv:VR c x v) (hm:mapOf H x=some (b,e,d,es)):
 c.H b=some (.row e 0 d (mapA es))/\c.U b/\∃rr ms clk,v= .map (some rr)/\c.ρ b=some (rr,0,0)/\w0.heap.size<=rr/\c.w.heap[rr]?=some (.map ms clk)/\iE c es ms.toList/\mz ms clk:=by
 unfold mapOf at hm
 split at hm
 ·rename_i b'
  split at hm
  ·rename_i e' d' es' hb
   simp only[Option.some.injEq,Prod.mk.injEq] at hm
   obtain⟨rfl,rfl,rfl,rfl⟩:=hm
   rw[<-hH] at hb
   obtain⟨hU,rr,x,ms,clk,h0,h1,h2,h3,h4,h5⟩:=h.ZH hb
   simp only[List.cons.injEq,and_true] at h3
   subst h3
   have h4:=iE.of_map h4
   rw[VR] at hv
   obtain⟨_,r',rfl,hr⟩:=hv
   obtain⟨_,hr⟩:=hr _ _ _ _ hb
   obtain⟨o',z',hρ⟩:=hr (by simp)
   rw[h0] at hρ
   cases hρ
   exact⟨hb,hU,_,ms,clk,rfl,h0,h1,h2,h4,h5⟩
  ·simp at hm
 ·simp at hm
theorem qL {b:Nat} {e:TypeId} {d0 d:AV} {es0 ents:List AV} {rr clk clk0:Nat} {ms ms0:Array MapEntry} {N:Next} (h:dy w0 c) (hb:c.H b=some (.row e 0 d0 es0)) (hl:es0.length=1) (hρ:c.ρ b=some (rr,0,0))
 (ho:c.w.heap[rr]?=some (.map ms0 clk0)) (hrun:(execOp a.eval o).run P c.w= .ok N { c.w with heap:=c.w.heap.setIfInBounds rr (.map ms clk) }) (hN:(N= .skip/\r= .any)\/∃v,N= .value v/\VR c r v) (hE:iE c ents ms.toList) (hbn:mz ms clk):
 eU P o a w0 c id r (fU c.H b (some (.row e 0 d (mapA ents)))):=by
 intro K Q hK
 have hlt:rr<c.w.heap.size:=(Array.getElem?_eq_some_iff.1 ho).1
 obtain⟨h1,h2⟩:=kg (id:=id) (h.ZC (b:=b) (e:=e) d (ents:=ents) (w':={ c.w with heap:=c.w.heap.setIfInBounds rr (.map ms clk) }) (r:=rr) (clk:=clk) (ms:=ms)
  (.inr ⟨e,d0,es0,hb,hl,hρ⟩) (.inr ⟨_,_,_,hb,hρ⟩) rfl rfl rfl (by simp) (fun k _ hne=>by simp[Array.getElem?_setIfInBounds,Ne.symm hne]) (by simp[hlt]) hE.UU hbn) (h.row b _ _ _ _ hb).1
 have hρeq:fU c.ρ b (some (rr,0,0))=c.ρ:=by
  funext x
  by_cases hxb:x=b
  ·subst hxb;simp[hρ]
  ·exact eV _ _ hxb
 rw[hρeq] at h1 h2
 unfold Oper.wp
 rw[hrun]
 rcases hN with⟨rfl,rfl⟩|⟨v,rfl,hv⟩
 ·rw[Oper.upon_skip]
  exact hK _ _ _ h1 h2 (by rw[VR];trivial)
 ·rw[Oper.upon_value]
  exact hK _ _ _ h1 h2 (VR.cc h2 hv)
theorem MY {t kt et:TypeId} {rs:Option Operand} (ho:o.op= .makeMap t rs) (ht:P.underlying t=some (.map kt et)) (hr:ZI rs=true) (h:dy w0 c) (hid:¬c.U id) (d:AV):
 eU P o a w0 c id (.mp id) (fU c.H id (some (.row kt 0 d (mapA [])))):=by
 intro K Q hK
 have hrun:(execOp a.eval o).run P c.w= .ok (.value (.map (some c.w.heap.size))) (c.w.alloc (.map #[] 0)):=by
  unfold execOp
  match rs,ho,hr with
  |none,ho,_=>simp[ho,Instr.makeMap]
  |some (.const (.int _ _)),ho,_=>simp[ho,Instr.makeMap,run_underlying ht,Act.eval,asInt,asIntOf]
 obtain⟨h1,h2⟩:=h.ZC (b:=id) (e:=kt) d (ents:=[]) (w':=c.w.alloc (.map #[] 0)) (r:=c.w.heap.size) (clk:=0) (ms:=#[]) (.inl hid) (.inl (Nat.le_refl _)) rfl rfl rfl (by simp)
  (fun k hk _=>(heap_alloc c.w _).2 k hk) (heap_alloc c.w _).1 (by rw[VR];exact⟨_,rfl,by simp[cu]⟩) mz.empty
 unfold Oper.wp
 rw[hrun,Oper.upon_value]
 refine hK _ _ _ h1 h2 ?_
 rw[VR]
 refine⟨.inr rfl,_,rfl,fun e sz d' es he=> ?_⟩
 simp only[j6,dV,Option.some.injEq,fH.row.injEq] at he
 obtain⟨rfl,rfl,rfl,rfl⟩:=he
 exact⟨by simp[mapA],fun _=>⟨0,0,by simp[j6]⟩⟩
theorem lq {kt:TypeId} {d:TypeDesc} {k:Value} {ms:Array MapEntry} {x:Option (Nat×Value)} (hu:P.underlying kt=some d) (h:Instr.findNow d k ms.toList 0=some x) (w:World):(Instr.findKey kt k ms.toList).run P w= .ok x w:=run_findKey hu h
theorem zj {t kt e:TypeId} {x k:Operand} {x' k':eO} {ok str ag:Bool} {z:List Value} {sz:Nat} {b:Nat} {et:TypeId} {dd:AV} {es:List AV} {kv:Value} {res:Option (Nat×AV)} (ho:o.op= .lookup t x k ok) (ht:P.underlying t=some (.map kt e)) (hk:u0 P kt=some str) (hz:zT P e=some (sz,ag,z))
 (h:dy w0 c) (hH:c.H=bt H) (hF:FR c fr a.tmps) (h1:cQ x=some x') (h2:cQ k=some k') (hm:mapOf H (ev fr x')=some (b,et,dd,es)) (hkv:ev fr k'= .sc kv) (hok:kZ str kv=true) (hf:fG str kv es 0=some res):
 eU P o a w0 c id (match res with|some (_,v)=>if ok then .dI [v, .sc (.bool true)] else v|none=>if ok then .dI [gO ag z, .sc (.bool false)] else gO ag z) c.H:=by
 obtain⟨hb,hU,rr,ms,clk,hx,hρ,hlow,hheap,hE,hbn⟩:=mS h hH (gY hF h1) hm
 have hkk:=gY hF h2
 rw[hkv,VR] at hkk
 unfold u0 at hk
 cases hu:P.underlying kt with
 |none=>rw[hu] at hk;simp at hk
 |some d=>
  rw[hu] at hk
  simp only[Option.bind_some] at hk
  obtain⟨i,zv,hi,h0,_,_,_,_,_,_,_,hzv,_⟩:=jT hz
  have hck:∀n,(Instr.checkKey ms.isEmpty (n+1) kt kv).run P c.w= .ok () c.w:=fun n=>qT hu hk hok _ n c.w
  have hget:=MapKept.run_getObj_map (P:=P) hheap
  have hzero:(zeroValue e).run P c.w= .ok zv c.w:=by simp[zeroValue,typeInfo,hi,h0]
  have key:∀(q:Option (Nat×Value)) (u:Value) (t':Bool),Instr.findNow d kv ms.toList 0=some q->(match q with|some (_,v)=>u=v/\t'=true|none=>u=zv/\t'=false)->
   (execOp a.eval o).run P c.w= .ok (.value (if ok then .tuple #[u, .bool t'] else u)) c.w:=by
   intro q u t' hq hh
   have hfk:=lq (P:=P) hu hq c.w
   unfold execOp
   simp only[ho,Instr.lookup,Sem.run_bind,run_underlying ht,Result.andThen_ok,hx,hkk,hget,Sem.run_pure,hck,hfk]
   cases q with
   |none=>
    simp only at hh
    obtain⟨rfl,rfl⟩:=hh
    simp only[Sem.run_bind,hzero,Result.andThen_ok,Sem.run_pure]
   |some p=>
    simp only at hh
    obtain⟨rfl,rfl⟩:=hh
    simp only[Sem.run_bind,Sem.run_pure,Result.andThen_ok]
  rcases kK hk hE hf with⟨rfl,g1⟩|⟨j,v,m,rfl,g1,g2,g3,g4,g5⟩
  ·refine cR h (key none zv false g1 ⟨rfl,rfl⟩) ?_
   cases ok
   ·simpa using hzv c
   ·simp only[if_true];rw[VR];exact⟨_,rfl,by simp only[cu];exact⟨_,_,rfl,hzv c,_,_,rfl,by rw[VR],rfl⟩⟩
  ·refine cR h (key _ m.val true g5 ⟨rfl,rfl⟩) ?_
   cases ok
   ·simpa using g4
   ·simp only[if_true];rw[VR];exact⟨_,rfl,by simp only[cu];exact⟨_,_,rfl,g4,_,_,rfl,by rw[VR],rfl⟩⟩
theorem OH {k:Value} {str:Bool} (h:kZ str k=true):Instr.sameBits 10000 k k=true:=by
 unfold kZ at h
 split at h<;>first|(simp[Instr.sameBits];done)|(simp only[Instr.sameBits];exact(bytes_beq _ _).2 rfl)|simp at h
theorem qM {t kt e:TypeId} {x k y:Operand} {x' k' y':eO} {str:Bool} {b:Nat} {et:TypeId} {dd d2:AV} {es:List AV} {kv:Value} {res:Option (Nat×AV)} (ho:o.op= .mapUpdate t x k y\/o.op= .insert t x k y) (ht:P.underlying t=some (.map kt e)) (hk:u0 P kt=some str)
 (h:dy w0 c) (hH:c.H=bt H) (hF:FR c fr a.tmps) (h1:cQ x=some x') (h2:cQ k=some k') (h3:cQ y=some y') (hm:mapOf H (ev fr x')=some (b,et,dd,es)) (hkv:ev fr k'= .sc kv) (hok:kZ str kv=true) (hf:fG str kv es 0=some res):
 eU P o a w0 c id .any (fU c.H b (some (.row et 0 d2 (mapA (match res with|some (i,_)=>es.set i (og kv (ev fr y'))|none=>es++[og kv (ev fr y')]))))):=by
 obtain⟨hb,hU,rr,ms,clk,hx,hρ,hlow,hheap,hE,hbn⟩:=mS h hH (gY hF h1) hm
 have hkk:=gY hF h2
 rw[hkv,VR] at hkk
 have hy:=gY hF h3
 unfold u0 at hk
 cases hu:P.underlying kt with
 |none=>rw[hu] at hk;simp at hk
 |some d=>
  rw[hu] at hk
  simp only[Option.bind_some] at hk
  have hck:∀n,(Instr.checkKey false (n+1) kt kv).run P c.w= .ok () c.w:=fun n=>qT hu hk hok _ n c.w
  have hget:=MapKept.run_getObj_map (P:=P) hheap
  rcases kK hk hE hf with⟨rfl,g1⟩|⟨j,v,m,rfl,g1,g2,g3,g4,g5⟩
  ·have hset:=MapKept.run_setObj_map (P:=P) (.map (ms.push { key:=kv,val:=a.eval y,born:=clk }) (clk+1)) hheap
   have hfk:=lq (P:=P) hu g1 c.w
   refine qL (d:=d2) (N:= .skip) h hb (by simp[mapA]) hρ hheap (ms:=ms.push { key:=kv,val:=a.eval y,born:=clk }) (clk:=clk+1) ?_ (.inl ⟨rfl,rfl⟩) (hE.push hy) (hbn.push _ _)
   unfold execOp
   rcases ho with ho|ho<;>simp only[ho,Instr.mapUpdate,Sem.run_bind,run_underlying ht,Result.andThen_ok,hx,hkk,hget,Sem.run_pure,hck,hfk,hset]
  ·have hset:=MapKept.run_setObj_map (P:=P) (.map (ms.modify (0+j) fun e=>{ e with key:=kv,val:=a.eval y }) clk) hheap
   have hfk:=lq (P:=P) hu g5 c.w
   have hm0:((ms[0+j]?).map (·.key)).getD kv=kv:=by
    have:ms[j]?=some m:=by simpa using g2
    rw[Nat.zero_add,this];simpa using g3
   have hks:(Instr.keyThatStays kv kv).run P c.w= .ok kv c.w:=by simp[Instr.keyThatStays,OH hok]
   refine qL (d:=d2) (N:= .skip) h hb (by simp[mapA]) hρ hheap (ms:=ms.modify (0+j) fun e=>{ e with key:=kv,val:=a.eval y }) (clk:=clk) ?_ (.inl ⟨rfl,rfl⟩) (hE.set hy) (hbn.modify _ _ _)
   unfold execOp
   rcases ho with ho|ho<;>simp only[ho,Instr.mapUpdate,Sem.run_bind,run_underlying ht,Result.andThen_ok,hx,hkk,hget,Sem.run_pure,hck,hfk,hm0,hks,hset]
theorem IE {x:Operand} {x':eO} {t kt e:TypeId} {b:Nat} {et:TypeId} {dd:AV} {es:List AV} (ho:o.op= .call { callee:= .builtin .len,args:=#[x],argTypes:=#[t] }) (ht:P.underlying t=some (.map kt e)) (h:dy w0 c) (hH:c.H=bt H) (hF:FR c fr a.tmps) (h1:cQ x=some x')
 (hm:mapOf H (ev fr x')=some (b,et,dd,es)):eU P o a w0 c id (.sc (.int .i64 (es.length:Nat))) c.H:=by
 obtain⟨hb,hU,rr,ms,clk,hx,hρ,hlow,hheap,hE,hbn⟩:=mS h hH (gY hF h1) hm
 have hget:=MapKept.run_getObj_map (P:=P) hheap
 have hl:es.length=ms.size:=by simpa using(lQ.1 hE).1
 refine cR h (v:= .int .i64 (es.length:Nat)) ?_ (by rw[VR])
 unfold execOp
 simp[ho,resolve,invoke,builtin,Builtin.len_,hx,run_underlying ht,goInt,hget,hl]
theorem zg {t t2 kt e:TypeId} {x k:Operand} {x' k':eO} {str:Bool} {b:Nat} {et:TypeId} {dd d2:AV} {es:List AV} {kv:Value} {res:Option (Nat×AV)} (ho:o.op= .call { callee:= .builtin .delete,args:=#[x,k],argTypes:=#[t,t2] }) (ht:P.underlying t=some (.map kt e)) (hk:u0 P kt=some str)
 (h:dy w0 c) (hH:c.H=bt H) (hF:FR c fr a.tmps) (h1:cQ x=some x') (h2:cQ k=some k') (hm:mapOf H (ev fr x')=some (b,et,dd,es)) (hkv:ev fr k'= .sc kv) (hok:kZ str kv=true) (hf:fG str kv es 0=some res):
 eU P o a w0 c id (.dI []) (fU c.H b (some (.row et 0 d2 (mapA (match res with|some (i,_)=>es.eraseIdx i|none=>es))))):=by
 obtain⟨hb,hU,rr,ms,clk,hx,hρ,hlow,hheap,hE,hbn⟩:=mS h hH (gY hF h1) hm
 have hkk:=gY hF h2
 rw[hkv,VR] at hkk
 unfold u0 at hk
 cases hu:P.underlying kt with
 |none=>rw[hu] at hk;simp at hk
 |some d=>
  rw[hu] at hk
  simp only[Option.bind_some] at hk
  have hck:∀n,(Instr.checkKey ms.isEmpty (n+1) kt kv).run P c.w= .ok () c.w:=fun n=>qT hu hk hok _ n c.w
  have hget:=MapKept.run_getObj_map (P:=P) hheap
  have hv:VR c (.dI []) (.tuple #[]):=by rw[VR];exact⟨_,rfl,by simp[cu]⟩
  rcases kK hk hE hf with⟨rfl,g1⟩|⟨j,v,m,rfl,g1,g2,g3,g4,g5⟩
  ·have hset:=MapKept.run_setObj_map (P:=P) (.map ms clk) hheap
   have hfk:=lq (P:=P) hu g1 c.w
   refine qL (d:=d2) (N:= .value (.tuple #[])) h hb (by simp[mapA]) hρ hheap (ms:=ms) (clk:=clk) ?_ (.inr ⟨_,rfl,hv⟩) hE hbn
   unfold execOp
   simp[ho,resolve,invoke,builtin,Builtin.delete_,run_underlying ht,hx,hkk,hget,hck,hfk,hset]
  ·have hset:=MapKept.run_setObj_map (P:=P) (.map (ms.eraseIdxIfInBounds (0+j)) clk) hheap
   have hfk:=lq (P:=P) hu g5 c.w
   have hj:0+j<ms.size:=by have:=(List.getElem?_eq_some_iff.1 g2).1;simpa using this
   refine qL (d:=d2) (N:= .value (.tuple #[])) h hb (by simp[mapA]) hρ hheap (ms:=ms.eraseIdxIfInBounds (0+j)) (clk:=clk) ?_ (.inr ⟨_,rfl,hv⟩) (hE.erase hj) (hbn.erase hj)
   unfold execOp
   simp only[ho,resolve,invoke,builtin,Builtin.delete_,Sem.run_bind,run_underlying ht,Result.andThen_ok,hx,hkk,hget,Sem.run_pure,hck,hfk,hset,List.map_toArray,List.map_cons,List.map_nil,List.getElem?_toArray,List.getElem?_cons_zero,List.getElem?_cons_succ]
theorem M3 {x:Operand} {x':eO} {xt t t':TypeId} {ok ag:Bool} {z:List Value} {sz:Nat} {v:AV} {d:TypeDesc} {r:AV} (ho:o.op= .typeAssert x xt t ok) (ht:P.underlying t=some d) (hd:∀ms,d≠ .interface ms) (hz:zT P t=some (sz,ag,z)) (h:dy w0 c) (hF:FR c fr a.tmps) (h1:cQ x=some x')
 (hx:ev fr x'= .nA t' v) (hr:(if t'=t then some (if ok then AV.dI [v, .sc (.bool true)] else v) else if ok then some (.dI [gO ag z, .sc (.bool false)]) else none)=some r):eU P o a w0 c id r c.H:=by
 have hxv:=gY hF h1
 rw[hx,VR] at hxv
 obtain⟨uv,hv,hvr⟩:=hxv
 obtain⟨i,zv,hi,h0,_,_,_,_,_,_,_,hzv,_⟩:=jT hz
 have hzero:(zeroValue t).run P c.w= .ok zv c.w:=by simp[zeroValue,typeInfo,hi,h0]
 by_cases htt:t'=t
 ·rw[if_pos htt,Option.some.injEq] at hr
  subst hr
  refine cR h (v:=if ok then .tuple #[uv, .bool true] else uv) ?_ ?_
  ·unfold execOp
   simp only[ho,Instr.typeAssert,Sem.run_bind,run_underlying ht,Result.andThen_ok,hv]
   cases d<;>first|exact absurd rfl (hd _)|(simp only[htt,if_true,Sem.run_pure,Result.andThen_ok])
  ·cases ok
   ·simpa using hvr
   ·simp only[if_true];rw[VR];exact⟨_,rfl,by simp only[cu];exact⟨_,_,rfl,hvr,_,_,rfl,by rw[VR],rfl⟩⟩
 ·rw[if_neg htt] at hr
  cases ok
  ·simp at hr
  ·simp only[if_true,Option.some.injEq] at hr
   subst hr
   refine cR h (v:= .tuple #[zv, .bool false]) ?_ ?_
   ·unfold execOp
    simp only[ho,Instr.typeAssert,Sem.run_bind,run_underlying ht,Result.andThen_ok,hv]
    cases d<;>first|exact absurd rfl (hd _)|(simp only[if_neg htt,if_true,Sem.run_bind,hzero,Sem.run_pure,Result.andThen_ok])
   ·rw[VR];exact⟨_,rfl,by simp only[cu];exact⟨_,_,rfl,hzv c,_,_,rfl,by rw[VR],rfl⟩⟩
theorem TM {v u:Value} (h:eqv v u=true):u=v:=by
 unfold eqv at h
 split at h
 ·simp only[beq_iff_eq] at h;rw[h]
 ·simp only[Bool.and_eq_true,decide_eq_true_eq] at h;rw[h.1,h.2]
 ·simp at h
theorem GU {v:Value}:∀{l:List Value} {n:Nat},UW v l n=true->l=List.replicate n v
 |[],n,h=>by
  have h:Nat.beq n 0=true:=h
  have:=Nat.eq_of_beq_eq_true h
  subst this;rfl
 |u::l,n,h=>by
  cases n with
  |zero=>cases h
  |succ n=>
   have h:(eqv v u&&UW v l n)=true:=h
   rw[Bool.and_eq_true] at h
   rw[List.replicate_succ,TM h.1,GU h.2]
theorem yc {t:TypeId} {sz:Nat} {v:Value} (hz:zU P t=some (sz,v)):∃(i:TypeInfo) (cs:Array Value),P.info? t=some i/\i.zero=some (.agg cs)/\cs=(List.replicate sz v).toArray/\v.oneCell'=true/\0<sz:=by
 unfold zU at hz
 split at hz
 ·rename_i i hi hg
  split at hz
  ·rename_i hbig
   split at hz
   ·rename_i cs h0
    split at hz
    ·rename_i u rs qq
     simp only[Option.ite_none_right_eq_some,Bool.and_eq_true,Option.some.injEq,Prod.mk.injEq] at hz
     obtain⟨⟨g2,g3⟩,rfl,rfl⟩:=hz
     refine⟨i,cs,hi,h0, ?_,g2,by omega⟩
     apply Array.ext'
     exact GU g3
    ·simp at hz
   ·simp at hz
  ·simp at hz
 ·simp at hz
theorem ID {t:TypeId} {sz:Nat} {v:Value} (ho:o.op= .build t #[]) (hpl:(qb P t).isSome=true) (hz:zU P t=some (sz,v)) (h:dy w0 c):eU P o a w0 c id (.agg (List.replicate sz (.sc v))) c.H:=by
 obtain⟨i,cs,hi,h0,rfl,hone,hpos⟩:=yc hz
 obtain⟨pl,h1⟩:=Option.isSome_iff_exists.1 hpl
 refine uU (place:=placeOf pl) ho hi h0 ?_ h (qs:=[]) (by simpa using tP.nil) (by simp[sK,Value.cells])
 unfold qb at h1
 split at h1
 ·rename_i n e ht
  simp only[Option.map_eq_some_iff] at h1
  obtain⟨ie,h4,rfl⟩:=h1
  exact .inl ⟨n,e,ie,ht,h4,rfl⟩
 ·rename_i fs ht
  simp only[Option.map_eq_some_iff] at h1
  obtain⟨ps,h4,rfl⟩:=h1
  exact .inr ⟨fs,ps,ht,h4,rfl⟩
 ·simp at h1
theorem MA {sz:Nat} {v:Value} (h:v.oneCell'=true):fits true sz (.agg (List.replicate sz (.sc v)))=true:=by
 have:∀n,jM (List.replicate n (.sc v))=true:=by
  intro n
  induction n with
  |zero=>rfl
  |succ n ih=>simp only[List.replicate_succ,jM,one,h,ih,Bool.and_self]
 simp[fits,this]
theorem MJ {t:TypeId} {n:Nat} (ho:o.op= .alloc t) (hz:PL P t=some n) (h:dy w0 c) (hid:¬c.U id):
 eU P o a w0 c id (.pt id n 0 0) (fU c.H id (some (.row t 1 (.sc (.int .u8 0)) (List.replicate n (.sc (.int .u8 0)))))):=by
 unfold PL at hz
 split at hz
 ·rename_i m e p ht hp
  simp only[Option.ite_none_right_eq_some,Option.some.injEq] at hz
  obtain⟨⟨hn,hk,hpn,hall⟩,rfl⟩:=hz
  obtain⟨sz,ag,z⟩:=p
  obtain⟨i,v,hi,h0,h1,hg,hk2,hc,hl,hpos,hone,hv,hfit⟩:=jT hp
  dsimp only at hpn hall
  have hzr:z=List.replicate m (.int .u8 0):=by
   refine List.eq_replicate_iff.2 ⟨by omega,fun u hu=> ?_⟩
   have:=List.all_eq_true.1 hall u hu
   unfold SX at this
   split at this
   ·rw[of_decide_eq_true this]
   ·cases this
  refine jZ (.sc (.int .u8 0)) (es:=List.replicate m (.sc (.int .u8 0))) (sz:=1) (arr:=v.cells) (v:= .pointer (some ⟨c.w.heap.size,0,none⟩)) h hid (by omega) (fun _=> .inr rfl) (W:=c.w.alloc (.cells v.cells t)) rfl rfl rfl rfl ?_ (by simp[hc,hzr]) ?_ ?_
  ·unfold execOp
   simp[ho,Instr.alloc,newVar,newRow,zeroValue,typeInfo,hi,h0]
  ·intro j hj
   have hj:j<m:=by simpa using hj
   refine⟨.int .u8 0,rfl,fun q hq=> ?_,fun q x hx=> ?_, ?_⟩
   ·have:q=0:=by omega
    subst this
    rw[hc,hzr]
    simp[Value.cells,hj]
   ·have:q=0:=by
     rcases Nat.eq_zero_or_pos q with h|h
     ·exact h
     ·simp[Value.cells,show q≠0 by omega] at hx
    subst this
    simp[Value.cells] at hx
    subst hx;rfl
   ·have hg:(List.replicate m (AV.sc (.int .u8 0))).getD j .any= .sc (.int .u8 0):=by
     rw[List.getD,List.getElem?_replicate,if_pos hj];rfl
    rw[hg,VR]
  ·intro c' hU hρ hH
   rw[VR]
   refine⟨hU,by omega,_,rfl,fun e sz' d' es he=> ?_⟩
   rw[hH] at he
   simp only[Option.some.injEq,fH.row.injEq] at he
   obtain⟨rfl,rfl,rfl,rfl⟩:=he
   exact⟨by simp,fun _=>⟨by omega,_,_,_,hρ,by simp⟩⟩
 ·cases hz
theorem IB {t:TypeId} {sz:Nat} {v:Value} (ho:o.op= .alloc t) (hz:zU P t=some (sz,v)) (h:dy w0 c) (hid:¬c.U id) (d:AV):
 eU P o a w0 c id (.pt id 1 0 0) (fU c.H id (some (.row t sz d [.agg (List.replicate sz (.sc v))]))):=by
 obtain⟨i,cs,hi,h0,rfl,hone,hpos⟩:=yc hz
 refine jZ d (es:=[.agg (List.replicate sz (.sc v))]) (arr:=(List.replicate sz v).toArray) (v:= .pointer (some ⟨c.w.heap.size,0,none⟩)) h hid hpos (fun _=> .inl (by simp)) (W:=c.w.alloc (.cells (List.replicate sz v).toArray t)) rfl rfl rfl rfl ?_ (by simp) ?_ ?_
 ·unfold execOp
  simp[ho,Instr.alloc,newVar,newRow,zeroValue,typeInfo,hi,h0,Value.cells]
 ·intro j hj
  have:j=0:=by simpa using hj
  subst this
  refine⟨.agg (List.replicate sz v).toArray,by simp[Value.cells],fun j _=>by simp[Value.cells],fun j u hu=> ?_, ?_⟩
  ·simp only[Value.cells,List.getElem?_toArray,List.getElem?_replicate] at hu
   split at hu
   ·simp only[Option.some.injEq] at hu;subst hu;exact hone
   ·simp at hu
  ·simp only[List.getD,List.getElem?_cons_zero,Option.getD_some]
   rw[VR]
   refine⟨_,rfl, ?_⟩
   have:=cu.sc (c:=c) (List.replicate sz v)
   simpa using this
 ·intro c' hU hρ hH
  rw[VR]
  refine⟨hU,by omega,_,rfl,fun e sz' d' es he=> ?_⟩
  rw[hH] at he
  simp only[Option.some.injEq,fH.row.injEq] at he
  obtain⟨rfl,rfl,rfl,rfl⟩:=he
  exact⟨by simp,fun _=>⟨hpos,_,_,_,hρ,by simp⟩⟩
end
end Go.cw
end
