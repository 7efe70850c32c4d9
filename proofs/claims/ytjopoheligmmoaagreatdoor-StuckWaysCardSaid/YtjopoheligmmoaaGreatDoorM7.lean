import Derived.Test.YtjopoheligmmoaaGreatDoorM6
section
/- Runs of code, in the order of the text. -/
set_option linter.unusedSimpArgs false
set_option linter.unusedVariables false
namespace Go.cw
open Go.RowKit
noncomputable def mn (P:Program) (n:Nat) (ops:Array Oper):List Oper->Option (List iY)
 |[]=>some []
 |o::r=>match mq P o,mn P n ops r with
  |some lop,some gs=>
   if(match o.dst with|some d=>decide (d<n)|none=>true) then
    match o.guard with
    |none=>some (⟨o.dst,none,lop⟩::gs)
    |some (j,want)=>match(ops[j]?).bind (·.dst) with
     |some d=>some (⟨o.dst,some (d,want),lop⟩::gs)
     |none=>none
   else none
  |_,_=>none
def jm (P:Program) (f:FuncId):Prop:=∃fn,P.funcs[f]?=some fn/\fn.body.isSome=true/\(fn.name== "runtime.NumGoroutine")=false
def lO (P:Program) (f:FuncId) (args:List AV) (H:Hp) (id:Nat) (R:AV->Hp->Prop):Prop:=
 jm P f/\∀(w0:World) (c:Cx) (vs:List Value),dy w0 c->c.H=bt H->¬c.U id->cu c args vs->
  Calls P f vs.toArray c.w fun e w'=>∃v r H' ρ,e= .returned v/\R r H'/\dy w0 (j6 c id ρ (bt H') w')/\c.le (j6 c id ρ (bt H') w')/\VR (j6 c id ρ (bt H') w') r v
def yf (P:Program) (f:AV) (args:List AV) (H:Hp) (id:Nat) (K:AV->Hp->Prop):Prop:=
 match f with
 | .fn (.func g) first caps=>lO P g (first++args++caps) H id K
 |_=>False
def cU (P:Program) (f:FuncId) (args:List AV) (H:Hp) (nx:Nat) (R:AV->Hp->Nat->Prop):Prop:=
 jm P f/\∀(w0:World) (c:Cx) (vs:List Value),dy w0 c->c.H=bt H->(∀b,c.U b->b<nx)->cu c args vs->
  Calls P f vs.toArray c.w fun e w'=>∃v r H' nx' ρ U,e= .returned v/\R r H' nx'/\(∀b,U b->b<nx')/\dy w0 ⟨ρ,bt H',U,w',c.M0⟩/\c.le ⟨ρ,bt H',U,w',c.M0⟩/\VR ⟨ρ,bt H',U,w',c.M0⟩ r v
def NR (P:Program) (t:TypeId) (name:String):Option (FuncId×Option (TypeId×Bool×Nat)):=
 match(P.info? t).bind fun i=>i.methods.find? (·.name==name) with
 |some m=>match m.path.isEmpty,m.func with
  |true,some (f,true)=>match P.underlying t with
   |some (.pointer _)=>some (f,none)
   |_=>none
  |true,some (f,false)=>match P.underlying t with
   |some (.pointer e)=>match gX P e,kq P e with
    |some ag,some k=>if ag=false/\k≠1 then none else some (f,some (e,ag,k))
    |_,_=>none
   |some _=>some (f,none)
   |none=>none
  |_,_=>none
 |none=>none
def KW (P:Program) (f:FuncId) (v:AV) (args:List AV) (H:Hp) (nx:Nat) (K:AV->Hp->Nat->Prop):Option (TypeId×Bool×Nat)->Prop
 |none=>cU P f (v::args) H nx K
 |some (_,ag,k)=>∃sz e off r,k9 H v=some (sz,e,off)/\AF ag k e sz off=some r/\cU P f (r::args) H nx K
def wC (P:Program) (t:TypeId) (v:AV) (name:String) (args:List AV) (H:Hp) (nx:Nat) (K:AV->Hp->Nat->Prop):Prop:=
 ∃f md,NR P t name=some (f,md)/\KW P f v args H nx K md
def tM (P:Program) (f:AV) (args:List AV) (H:Hp) (nx:Nat) (K:AV->Hp->Nat->Prop):Prop:=
 match f with
 | .fn (.func g) first caps=>cU P g (first++args++caps) H nx K
 | .fn (.method name) [.nA t v] []=>wC P t v name args H nx K
 |_=>False
def ng {α:Type} (x:Option α) (K:α->Prop):Prop:=
 match x with
 |some a=>K a
 |none=>False
def yl (P:Program) (id:Nat) (fr:Fr) (H:Hp) (op:df) (K:AV->Hp->Prop):Prop:=
 match op with
 | .call f args=>yf P (ev fr f) (vl fr args) H id K
 |op=>ng (cM id fr H op) fun p=>K p.1 (dS H p.2)
def eL (P:Program) (nx:Nat) (fr:Fr) (H:Hp) (op:df) (K:AV->Hp->Nat->Prop):Prop:=
 match op with
 | .call f args=>tM P (ev fr f) (vl fr args) H nx K
 |op=>ng (cM nx fr H op) fun p=>K p.1 (dS H p.2) (nx+1)
def dj (fr:Fr) (g:Option (Nat×Bool)) (A B:Prop):Prop:=
 match g with
 |none=>A
 |some (d,want)=>match cq fr d with
  | .sc (.bool t)=>if t=want then A else B
  | .sc _=>B
  |_=>False
def fu (P:Program):Nat->List iY->Fr->Hp->(Fr->Hp->Nat->Prop)->Prop
 |nx,[],fr,H,K=>K fr H nx
 |nx,g::rest,fr,H,K=>dj fr g.guard (eL P nx fr H g.op fun r H' nx'=>fu P nx' rest (gR fr g.dst r) H' K) (fu P (nx+1) rest (gR fr g.dst (.sc undef)) H K)
def nD (c0:Cx) (lo:Nat) (c:Cx):Prop:=(∀b,c0.U b->b<lo)/\c0.le c
def Holds (w0:World) (M0:Nat->Prop) (c0:Cx) (lo n:Nat) (fr:Fr) (H:Hp) (nx:Nat) (a:Act) (w:World):Prop:=
 a.tmps.size=n/\a.defers=[]/\∃ρ U,(∀b,U b->b<nx)/\dy w0 ⟨ρ,bt H,U,w,M0⟩/\FR ⟨ρ,bt H,U,w,M0⟩ fr a.tmps/\nD c0 lo ⟨ρ,bt H,U,w,M0⟩
theorem nD.to {c0 c c':Cx} {lo:Nat} (h:nD c0 lo c) (k:c.le c'):nD c0 lo c':=⟨h.1,h.2.trans k⟩
section
variable {P:Program} {o:Oper} {a:Act} {w0:World} {c:Cx} {id:Nat} {fr:Fr} {H:Hp} {M0:Nat->Prop} {n nx lo:Nat} {c0:Cx}
theorem FR.put {c c':Cx} {fr:Fr} {a:Act} {d:Option Nat} {r:AV} {v:Value} (h:FR c fr a.tmps) (hle:c.le c') (hv:VR c' r v) (hd:∀x,d=some x->x<a.tmps.size):FR c' (gR fr d r) (a.put d v).tmps:=by
 intro t
 cases d with
 |none=>exact VR.cc hle (h t)
 |some d=>
  have hlt:=hd d rfl
  simp only[gR,cq,Act.put]
  by_cases ht:t=d
  ·subst ht
   rw[if_pos rfl]
   simpa[Array.getD,Array.size_setIfInBounds,hlt] using hv
  ·rw[if_neg ht]
   have:(a.tmps.setIfInBounds d v).getD t undef=a.tmps.getD t undef:=by
    simp[Array.getElem?_setIfInBounds,Ne.symm ht]
   rw[this]
   exact VR.cc hle (h t)
theorem dL (a:Act) (d:Option Nat) (v:Value):(a.put d v).tmps.size=a.tmps.size/\(a.put d v).defers=a.defers:=by
 cases d<;>simp[Act.put]
theorem Holds.next {r:AV} {v:Value} {d:Option Nat} {H':Hp} {ρ:Nat->Option (Nat×Nat×Nat)} {U:Nat->Prop} {w':World} {nx':Nat} (hn:a.tmps.size=n) (hd:a.defers=[]) (hU:∀b,U b->b<nx') (hF:FR c fr a.tmps) (hT:nD c0 lo c)
 (h1:dy w0 ⟨ρ,bt H',U,w',c.M0⟩) (h2:c.le ⟨ρ,bt H',U,w',c.M0⟩) (h3:VR ⟨ρ,bt H',U,w',c.M0⟩ r v) (hdst:∀x,d=some x->x<n):Holds w0 c.M0 c0 lo n (gR fr d r) H' nx' (a.put d v) w':=by
 obtain⟨p1,p2⟩:=dL a d v
 exact⟨p1.trans hn,p2.trans hd,ρ,U,hU,h1,hF.put h2 h3 (fun x hx=>by rw[hn];exact hdst x hx),hT.to h2⟩
theorem BI (ts:Array TypeId) (t:TypeId) (a:Addr) (s m:ByteArray) (w:World):(Builtin.ssaWrapNilChk_ ts t #[.pointer (some a), .string s, .string m]).run P w= .ok (.pointer (some a)) w:=rfl
theorem EU {t:TypeId} {v:AV} {u:Value} {nm:String} {f:FuncId} {md:Option (TypeId×Bool×Nat)} {args':List AV} {R:AV->Hp->Nat->Prop} (h:dy w0 c) (hH:c.H=bt H) (hm:NR P t nm=some (f,md)) (hv:VR c v u)
 (hc:KW P f v args' H nx R md):
 ∃x y,cU P f (x::args') H nx R/\VR c x y/\∀n,(method (n+1) t u nm).run P c.w= .ok (f,y) c.w:=by
 unfold NR at hm
 split at hm
 ·rename_i m hmt
  simp only[Option.bind_eq_some_iff] at hmt
  obtain⟨i,hi,hfind⟩:=hmt
  split at hm
  ·rename_i f' hp hfn
   split at hm
   ·rename_i e ht
    simp only[Option.some.injEq,Prod.mk.injEq] at hm
    obtain⟨rfl,rfl⟩:=hm
    refine⟨v,u,hc,hv,fun n=> ?_⟩
    have hpath:m.path.toList=[]:=by simpa using hp
    simp[method,typeInfo,hi,hfind,hpath,follow,hfn,receiverAt,run_underlying ht,Place.get]
   ·simp at hm
  ·rename_i f' hp hfn
   have hpath:m.path.toList=[]:=by simpa using hp
   split at hm
   ·rename_i e ht
    split at hm
    ·rename_i ag k hg hk
     simp only[Option.ite_none_left_eq_some,Option.some.injEq,Prod.mk.injEq] at hm
     obtain⟨hk1,rfl,rfl⟩:=hm
     obtain⟨sz,e',off,r,hl,sR,hc⟩:=hc
     obtain⟨blk,o',w,rfl,hat,hve,hlt⟩:=rX h hH hv hl
     obtain⟨y,hrun,hry⟩:=uc (P:=P) hg hk hat hve hlt sR (fun e=>by
      rcases Nat.decEq k 1 with h2|h2
      ·exact absurd ⟨e,h2⟩ hk1
      ·exact h2)
     refine⟨r,y,hc,hry,fun n=> ?_⟩
     simp only[method,typeInfo,hi,hfind,hpath,follow,hfn,receiverAt,run_underlying ht,Place.get,hp,if_true,Sem.run_bind,run_program,Result.andThen_ok,Sem.run_pure,strVal,BI,asAddr,hrun]
    ·simp at hm
   ·rename_i d hne ht
    simp only[Option.some.injEq,Prod.mk.injEq] at hm
    obtain⟨rfl,rfl⟩:=hm
    refine⟨v,u,hc,hv,fun n=> ?_⟩
    simp only[method,typeInfo,hi,hfind,hpath,follow,hfn,receiverAt,Place.get,Sem.run_bind,run_program,Result.andThen_ok,Sem.run_pure,run_underlying ht]
   ·simp at hm
  ·simp at hm
 ·simp at hm
theorem tv {A:AV} {fv:Value} {args':List AV} {vs:List Value} {R:AV->Hp->Nat->Prop} (h:dy w0 c) (hH:c.H=bt H) (hc:tM P A args' H nx R) (hA:VR c A fv) (hav:cu c args' vs):
 ∃g all us,cU P g all H nx R/\cu c all us/\(do let d <-Deferred.ofValue fv vs.toArray;invoke d.target d.args:Sem Next).run P c.w= .ok (.enter g us.toArray) c.w:=by
 unfold tM at hc
 split at hc
 ·rename_i g first caps
  rw[VR] at hA
  obtain⟨ps,qs,rfl,hps,hqs⟩:=hA
  refine⟨g,_,_,hc,cu.append hqs (cu.append hav hps), ?_⟩
  obtain⟨⟨fn,e1,e2,e3⟩,_⟩:=hc
  obtain⟨code,hcode⟩:=Option.isSome_iff_exists.1 e2
  simp only[Sem.run_bind,Deferred.ofValue,Sem.run_pure,Result.andThen_ok,invoke,callFunc,run_program,e1,e3,hcode,Bool.false_eq_true,if_false,Option.isNone_some]
  congr 2
  apply Array.ext'
  simp
 ·rename_i nm t v
  rw[VR] at hA
  obtain⟨ps,qs,rfl,hps,hqs⟩:=hA
  simp only[cu] at hps hqs
  obtain⟨v1,_,hps,hv1,rfl⟩:=hps
  rw[VR] at hv1
  obtain⟨u,rfl,hvu⟩:=hv1
  have e1:ps=#[.iface t u]:=by rw[<-Array.toArray_toList (xs:=ps),hps]
  have e2:qs=#[]:=by rw[<-Array.toArray_toList (xs:=qs),hqs]
  subst e1 e2
  obtain⟨f,md,hm,hc⟩:=hc
  obtain⟨x,y,h1,h2,h3⟩:=EU h hH hm hvu hc
  refine⟨f,_,y::vs,h1,by rw[cu];exact⟨_,_,rfl,h2,hav⟩, ?_⟩
  obtain⟨⟨fn,e1,e2,e3⟩,_⟩:=h1
  obtain⟨code,hcode⟩:=Option.isSome_iff_exists.1 e2
  have hme:(method (P.types.size+Made.depth) t u nm).run P c.w= .ok (f,y) c.w:=h3 (P.types.size+99)
  have ea:(#[Value.iface t u]++vs.toArray)[0]?=some (Value.iface t u):=by simp
  have eb:(#[Value.iface t u]++vs.toArray).extract 1 (#[Value.iface t u]++vs.toArray).size=vs.toArray:=by
   apply Array.ext';simp
  simp only[Sem.run_bind,Deferred.ofValue,Sem.run_pure,Result.andThen_ok,invoke,ea,eb,callMethod,run_program,hme,callFunc,e1,e3,hcode,Bool.false_eq_true,if_false,Option.isNone_some]
  congr 2
  apply Array.ext'
  simp
 ·exact hc.elim
theorem xP {g:FuncId} {all:List AV} {us:List Value} (h:dy w0 c) (hH:c.H=bt H) (hU:∀b,c.U b->b<nx) {R:AV->Hp->Nat->Prop} (hc:cU P g all H nx R) (hall:cu c all us) {K:Act->World->Prop} {Q:Exit->Act->World->Prop}
 (hr:(execOp a.eval o).run P c.w= .ok (.enter g us.toArray) c.w)
 (hK:∀v r H' nx' ρ U w',R r H' nx'->(∀b,U b->b<nx')->dy w0 ⟨ρ,bt H',U,w',c.M0⟩->c.le ⟨ρ,bt H',U,w',c.M0⟩->VR ⟨ρ,bt H',U,w',c.M0⟩ r v->K (a.put o.dst v) w'):o.wp P a c.w K Q:=by
 have hcall:=hc.2 w0 c _ h hH hU hall
 unfold Oper.wp
 rw[hr,Oper.upon_enter]
 refine hcall.mono fun e w' hh=> ?_
 obtain⟨v,r,H',nx',ρ,U,rfl,hR,s0,s1,s2,s3⟩:=hh
 exact hK v r H' nx' ρ U w' hR s0 s1 s2 s3
theorem O6 {f:Operand} {args:Array Operand} {tys:Array TypeId} {f':eO} {args':List eO} (ho:o.op= .call { callee:= .value f,args:=args,argTypes:=tys }) (h1:cQ f=some f') (h2:nZ args.toList=some args')
 (h:dy w0 c) (hH:c.H=bt H) (hF:FR c fr a.tmps) (hU:∀b,c.U b->b<nx) {R:AV->Hp->Nat->Prop} (hc:tM P (ev fr f') (vl fr args') H nx R) {K:Act->World->Prop} {Q:Exit->Act->World->Prop}
 (hK:∀v r H' nx' ρ U w',R r H' nx'->(∀b,U b->b<nx')->dy w0 ⟨ρ,bt H',U,w',c.M0⟩->c.le ⟨ρ,bt H',U,w',c.M0⟩->VR ⟨ρ,bt H',U,w',c.M0⟩ r v->K (a.put o.dst v) w'):o.wp P a c.w K Q:=by
 obtain⟨g,all,us,g1,g2,g3⟩:=tv h hH hc (gY hF h1) (ju hF h2)
 refine xP h hH hU g1 g2 ?_ hK
 unfold execOp
 simp only[ho,resolve]
 rw[<-g3]
 simp only[Sem.run_bind,List.map_toArray]
 rw[show Array.map a.eval args=(args.toList.map a.eval).toArray by apply Array.ext';simp]
theorem O5 {n:Nat} {nm:String} {args:Array Operand} {tys:Array TypeId} {args':List eO} (ho:o.op= .call { callee:= .invoke (.tmp n) nm,args:=args,argTypes:=tys }) (h2:nZ args.toList=some args')
 (h:dy w0 c) (hH:c.H=bt H) (hF:FR c fr a.tmps) (hU:∀b,c.U b->b<nx) {R:AV->Hp->Nat->Prop} (hc:tM P (ev fr (.m nm n)) (vl fr args') H nx R) {K:Act->World->Prop} {Q:Exit->Act->World->Prop}
 (hK:∀v r H' nx' ρ U w',R r H' nx'->(∀b,U b->b<nx')->dy w0 ⟨ρ,bt H',U,w',c.M0⟩->c.le ⟨ρ,bt H',U,w',c.M0⟩->VR ⟨ρ,bt H',U,w',c.M0⟩ r v->K (a.put o.dst v) w'):o.wp P a c.w K Q:=by
 have hn:=hF n
 simp only[ev] at hc
 split at hc
 ·rename_i t v ht
  rw[ht,VR] at hn
  obtain⟨u,hu,hvu⟩:=hn
  have hA:VR c (.fn (.method nm) [.nA t v] []) (.func (.method nm) #[.iface t u] #[]):=by
   rw[VR]
   exact⟨_,_,rfl,by simp only[cu];exact⟨_,_,rfl,by rw[VR];exact⟨_,rfl,hvu⟩,rfl⟩,by simp[cu]⟩
  obtain⟨g,all,us,g1,g2,g3⟩:=tv h hH hc hA (ju hF h2)
  refine xP h hH hU g1 g2 ?_ hK
  unfold execOp
  simp only[ho,resolve]
  rw[<-g3]
  simp only[Sem.run_bind,Deferred.ofValue,Act.eval,hu,Sem.run_pure,Result.andThen_ok]
  rw[show Array.map a.eval args=(args.toList.map a.eval).toArray by apply Array.ext';simp]
 ·exact hc.elim
theorem RY {f:Operand} {args:Array Operand} {tys:Array TypeId} {f':eO} {args':List eO} (ho:o.op= .call { callee:= .value f,args:=args,argTypes:=tys }) (h1:cQ f=some f') (h2:nZ args.toList=some args')
 (h:dy w0 c) (hH:c.H=bt H) (hF:FR c fr a.tmps) (hid:¬c.U id) {R:AV->Hp->Prop} (hc:yf P (ev fr f') (vl fr args') H id R) {K:Act->World->Prop} {Q:Exit->Act->World->Prop}
 (hK:∀v r H' ρ w',R r H'->dy w0 (j6 c id ρ (bt H') w')->c.le (j6 c id ρ (bt H') w')->VR (j6 c id ρ (bt H') w') r v->K (a.put o.dst v) w'):o.wp P a c.w K Q:=by
 have hfv:=gY hF h1
 have hav:=ju hF h2
 generalize ev fr f'=A at hc hfv
 cases A<;>simp only[yf] at hc
 rename_i g first caps
 cases g<;>simp only at hc
 rename_i g
 obtain⟨⟨fn,e1,e2,e3⟩,hc⟩:=hc
 rw[VR] at hfv
 obtain⟨ps,qs,hfv,hps,hqs⟩:=hfv
 have hall:cu c (first++vl fr args'++caps) (ps.toList++args.toList.map a.eval++qs.toList):=cu.append hqs (cu.append hav hps)
 have hcall:=hc w0 c _ h hH hid hall
 obtain⟨code,hcode⟩:=Option.isSome_iff_exists.1 e2
 unfold Oper.wp execOp
 have hr:((do let d <-resolve a.eval { callee:= .value f,args:=args,argTypes:=tys } o.type;invoke d.target d.args:Sem Next)).run P c.w= .ok (.enter g (ps.toList++args.toList.map a.eval++qs.toList).toArray) c.w:=by
  simp only[resolve,Sem.run_bind,hfv,Deferred.ofValue,Sem.run_pure,Result.andThen_ok,invoke,callFunc,run_program,e1,e3,hcode,Bool.false_eq_true,if_false,Option.isNone_some]
  congr 2
  apply Array.ext'
  simp
 simp only[ho]
 rw[hr,Oper.upon_enter]
 refine hcall.mono fun e w' hh=> ?_
 obtain⟨v,r,H',ρ,rfl,hR,s1,s2,s3⟩:=hh
 exact hK v r H' ρ w' hR s1 s2 s3
theorem AP {f':eO} {args':List eO} (hl:rb P o=some (.call f' args')):(∃f args tys,o.op= .call { callee:= .value f,args:=args,argTypes:=tys }/\cQ f=some f'/\nZ args.toList=some args')\/
 ∃n nm args tys,o.op= .call { callee:= .invoke (.tmp n) nm,args:=args,argTypes:=tys }/\f'= .m nm n/\nZ args.toList=some args':=by
 cases hop:o.op<;>simp only[rb,AO,hop,reduceCtorEq] at hl
 case call cl=>
  obtain⟨callee,args,tys⟩:=cl
  cases callee with
  |value f=>
   simp only at hl
   split at hl
   ·rename_i f1 q1 g1 g2
    simp only[Option.some.injEq,df.call.injEq] at hl
    obtain⟨rfl,rfl⟩:=hl
    exact .inl ⟨f,args,tys,rfl,g1,g2⟩
   ·simp at hl
  |invoke r m=>
   simp only at hl
   split at hl
   ·rename_i n q1 g1 g2
    simp only[Option.some.injEq,df.call.injEq] at hl
    obtain⟨rfl,rfl⟩:=hl
    have hr:r= .tmp n:=by cases r<;>simp[cQ] at g1;rw[g1]
    subst hr
    exact .inr ⟨n,m,args,tys,rfl,rfl,g2⟩
   ·simp at hl
  |builtin b=>
   exfalso
   cases b<;>simp only[reduceCtorEq] at hl
   all_goals (repeat' (split at hl))
   all_goals simp at hl
 all_goals (exfalso;repeat' (split at hl))
 all_goals first|contradiction|(simp at hl;done)|(simp[Option.map_eq_some_iff] at hl;done)
theorem ue {f':eO} {args':List eO} (hl:mq P o=some (.call f' args')):(∃f args tys,o.op= .call { callee:= .value f,args:=args,argTypes:=tys }/\cQ f=some f'/\nZ args.toList=some args')\/
 ∃n nm args tys,o.op= .call { callee:= .invoke (.tmp n) nm,args:=args,argTypes:=tys }/\f'= .m nm n/\nZ args.toList=some args':=
 AP ((sU hl).resolve_right fun e=>by cases e)
theorem RM {op:df} (hl:mq P o=some op) (h:dy w0 c) (hH:c.H=bt H) (hF:FR c fr a.tmps) (hid:¬c.U id) {R:AV->Hp->Prop} (hs:yl P id fr H op R) {K:Act->World->Prop} {Q:Exit->Act->World->Prop}
 (hK:∀v r H' ρ w',R r H'->dy w0 (j6 c id ρ (bt H') w')->c.le (j6 c id ρ (bt H') w')->VR (j6 c id ρ (bt H') w') r v->K (a.put o.dst v) w'):o.wp P a c.w K Q:=by
 by_cases hcall:∃f args,op= .call f args
 ·obtain⟨f',args',rfl⟩:=hcall
  rcases ue hl with⟨f,args,tys,ho,g1,g2⟩|⟨n,nm,args,tys,ho,rfl,g2⟩
  ·exact RY ho g1 g2 h hH hF hid hs hK
  ·simp only[yl,yf,ev] at hs
   split at hs
   ·rename_i he;split at he<;>simp at he
   ·exact hs.elim
 ·have hs':ng (cM id fr H op) fun p=>R p.1 (dS H p.2):=by
   cases op<;>first|exact hs|exact absurd ⟨_,_,rfl⟩ hcall
  cases hst:cM id fr H op with
  |none=>rw[hst] at hs';exact hs'.elim
  |some p=>
   obtain⟨r,u⟩:=p
   rw[hst] at hs'
   have g:=xL (P:=P) hl hst h hH hF hid
   exact g K Q fun v ρ w' s1 s2 s3=>hK v r (dS H u) ρ w' hs' s1 s2 s3
theorem vN {op:df} (hl:mq P o=some op) (h:dy w0 c) (hH:c.H=bt H) (hF:FR c fr a.tmps) (hU:∀b,c.U b->b<nx) {R:AV->Hp->Nat->Prop} (hs:eL P nx fr H op R) {K:Act->World->Prop} {Q:Exit->Act->World->Prop}
 (hK:∀v r H' nx' ρ U w',R r H' nx'->(∀b,U b->b<nx')->dy w0 ⟨ρ,bt H',U,w',c.M0⟩->c.le ⟨ρ,bt H',U,w',c.M0⟩->VR ⟨ρ,bt H',U,w',c.M0⟩ r v->K (a.put o.dst v) w'):o.wp P a c.w K Q:=by
 by_cases hcall:∃f args,op= .call f args
 ·obtain⟨f',args',rfl⟩:=hcall
  rcases ue hl with⟨f,args,tys,ho,g1,g2⟩|⟨n,nm,args,tys,ho,rfl,g2⟩
  ·exact O6 ho g1 g2 h hH hF hU hs hK
  ·exact O5 ho g2 h hH hF hU hs hK
 ·have hs':ng (cM nx fr H op) fun p=>R p.1 (dS H p.2) (nx+1):=by
   cases op<;>first|exact hs|exact absurd ⟨_,_,rfl⟩ hcall
  cases hst:cM nx fr H op with
  |none=>rw[hst] at hs';exact hs'.elim
  |some p=>
   obtain⟨r,u⟩:=p
   rw[hst] at hs'
   have g:=xL (P:=P) hl hst h hH hF (fun hh=>by have:=hU _ hh;omega)
   exact g K Q fun v ρ w' s1 s2 s3=>hK v r (dS H u) (nx+1) ρ _ w' hs' (fun b hb=>by
    rcases hb with hb|rfl
    ·have:=hU b hb;omega
    ·omega) s1 s2 s3
theorem jj {ops:Array Oper} {Q:Exit->Act->World->Prop} {K:Fr->Hp->Nat->Prop}:∀{l:List Oper} {gs:List iY} {nx:Nat} {fr:Fr} {H:Hp} {a:Act} {w:World},mn P n ops l=some gs->Holds w0 M0 c0 lo n fr H nx a w->fu P nx gs fr H K->
 (∀fr' H' nx' a' w',K fr' H' nx'->Holds w0 M0 c0 lo n fr' H' nx' a' w'->Q .normal a' w')->wpList P ops Q l a w
 |[],gs,nx,fr,H,a,w,hl,hh,hr,hK=>by
  simp only[mn,Option.some.injEq] at hl
  subst hl
  exact hK _ _ _ _ _ hr hh
 |o::l,gs,nx,fr,H,a,w,hl,hh,hr,hK=>by
  simp only[mn] at hl
  split at hl
  ·rename_i lop gs' h1 h2
   simp only[Option.ite_none_right_eq_some] at hl
   obtain⟨hd,hl⟩:=hl
   have hdst:∀x,o.dst=some x->x<n:=fun x hx=>by rw[hx] at hd;simpa using hd
   obtain⟨hn,hde,ρ,U,hU,hS,hF,hT⟩:=hh
   have hskip:Holds w0 M0 c0 lo n (gR fr o.dst (.sc undef)) H (nx+1) (a.put o.dst undef) w:=
    Holds.next (c:=⟨ρ,bt H,U,w,M0⟩) hn hde (fun b hb=>by have:=hU b hb;omega) hF hT hS (Cx.le.refl _) (by rw[VR]) hdst
   have hdo:eL P nx fr H lop (fun r H' nx'=>fu P nx' gs' (gR fr o.dst r) H' K)->o.wp P a w (wpList P ops Q l) Q:=fun hs=>
    vN (c:=⟨ρ,bt H,U,w,M0⟩) h1 hS rfl hF hU hs fun v r H' nx' ρ' U' w' hR s0 s1 s2 s3=>
     jj h2 (Holds.next (c:=⟨ρ,bt H,U,w,M0⟩) hn hde s0 hF hT s1 s2 s3 hdst) hR hK
   cases hg:o.guard with
   |none=>
    rw[hg] at hl
    simp only[Option.some.injEq] at hl
    subst hl
    simp only[fu,dj] at hr
    simp only[wpList,Region.wanted,hg,if_true]
    exact .inl (hdo hr)
   |some gd=>
    obtain⟨j,want⟩:=gd
    rw[hg] at hl
    simp only at hl
    split at hl
    ·rename_i d hdj
     simp only[Option.some.injEq] at hl
     subst hl
     simp only[fu,dj] at hr
     have hfd:=hF d
     simp only[wpList,Region.wanted,hg,yielded,hdj,Option.bind_some]
     split at hr
     ·rename_i t ht
      rw[ht,VR] at hfd
      have hsome:a.tmps[d]?=some (.bool t):=by
       rw[Array.getD_eq_getD_getElem?] at hfd
       cases hx:a.tmps[d]? with
       |none=>rw[hx] at hfd;cases hfd
       |some y=>rw[hx] at hfd;simp at hfd;rw[hfd]
      simp only[hsome]
      by_cases htw:t=want
      ·rw[if_pos htw] at hr
       rw[if_pos (by simp[htw])]
       exact .inl (hdo hr)
      ·rw[if_neg htw] at hr
       rw[if_neg (by simp[htw])]
       exact jj h2 hskip hr hK
     ·rename_i u hu ht
      rw[ht,VR] at hfd
      have hno:∀t,a.tmps[d]?≠some (.bool t):=by
       intro t hx
       rw[Array.getD_eq_getD_getElem?,hx] at hfd
       exact hu t hfd.symm
      rw[if_neg]
      ·exact jj h2 hskip hr hK
      ·split
       ·rename_i b hb;exact absurd hb (hno b)
       ·simp
     ·exact hr.elim
    ·simp at hl
  ·simp at hl
end
end Go.cw
/- Code as a whole: rules, one a form; what may be forgotten. -/
namespace Go.cw
open Go.RowKit
def q7:eO->List Nat
 | .t n=>[n]
 | .m _ n=>[n]
 |_=>[]
def df.eT:df->List eO
 | .mv x| .box _ _ _ x| .ld _ _ x| .UC x| .un _ x| .V0 _ x| .fa _ x| .V7 _ _ _ x| .ext _ x| .ZB _ x| .len x| .lens x| .JD _ x| .AW _ x| .DO x| .ZN _ _ _ _ x| .TA x| .PU _ _ _ x=>[x]
 | .RI _ x lo hi=>[x]++lo.toList++hi.toList
 | .pick a b c=>[a,b,c]
 | .VI _ a b c=>[a,b,c]
 | .TW _ a b=>[a,b]
 | .UM _ a b=>[a,b]
 | .alloc ..| .SQ _| .yw ..| .HA ..| .R6 ..| .bad=>[]
 | .QU _ _ _ _ x y| .del _ x y=>[x,y]
 | .KT _ x y z=>[x,y,z]
 | .U8 _ ps=>ps.map (·.2.2)
 | .R8 _ _ _ _ _ ps=>ps.map (·.2)
 | .P1 _ x y| .eqs _ _ x y| .st _ _ x y| .bin _ x y| .VB _ x y| .wU _ x y| .HB _ x y| .ia _ _ x y| .ix _ _ _ x y| .WI x y| .T9 _ _ _ _ _ x y| .app _ _ _ _ _ x y| .K8 _ _ _ x y=>[x,y]
 | .VF _ p q=>p++q
 | .call f as=>f::as
def iY.ts (g:iY):List Nat:=(match g.guard with|some (d,_)=>[d]|none=>[])++g.op.eT.flatMap q7
def df.rd:df->Bool
 | .call ..| .ld ..| .st ..| .fa ..| .ia ..| .len ..| .app ..| .AW ..| .RI ..| .TW ..| .UM ..| .P1 ..| .QU ..| .KT ..| .DO ..| .del ..| .TA ..| .PU ..| .K8 ..=>true
 |_=>false
def df.wr:df->Bool
 | .call ..| .st ..| .P1 ..| .app ..| .alloc ..| .R6 ..| .box ..| .R8 ..| .T9 ..| .SQ ..| .yw ..| .KT ..| .del ..| .PU ..| .K8 ..=>true
 |_=>false
def jG (ops:Array Oper) (k:Nat):List Nat:=
 match ops[k]? with
 |some o=>o.after.toList.filterMap fun e=>if Region.binds .any e then some e.on else none
 |none=>[]
def xb (acc:List Nat):List Nat->Nat
 |[]=>0
 |p::r=>(1<<<p)|||(acc.getD p 0|||xb acc r)
def PK:List (List Nat)->List Nat->List Nat
 |[],acc=>acc
 |ps::r,acc=>PK r (acc++[xb acc ps])
def je (ops:Array Oper):List Nat:=PK ((List.range ops.size).map (jG ops)) []
def eQ (an:List Nat) (i j:Nat):Bool:=(an.getD j 0).testBit i
def xc (g h:iY):Bool:=
 (match g.dst with|some d=> !h.ts.contains d&&h.dst != some d|none=>true)&&(match h.dst with|some d=> !g.ts.contains d|none=>true)
def oV (N:Nat):List (Nat×Nat):=(List.range N).flatMap fun j=>(List.range j).map fun i=>(i,j)
def cutAt (an:List Nat) (N k:Nat):Bool:=(List.range (N - k)).all fun j=>(an.getD (k+j) 0)%2^k==2^k - 1
def LS (an:List Nat) (N:Nat):List Nat:=(List.range (N+1)).filter fun k=>decide (0<k)&&cutAt an N k
def vH (an:List Nat) (N:Nat) (gs:List iY):Nat->List Nat->Option (List tS)
 |lo,[]=>if lo=N then some [] else none
 |lo,c::r=>
  let ws:=(gs.drop lo).take (c - lo)
  let free:=(oV ws.length).filter fun p=> !eQ an (lo+p.1) (lo+p.2)
  if((decide (lo<c)&&decide (c<=N))&&cutAt an N c)&&free.all fun p=>xc (ws.getD p.1 default) (ws.getD p.2 default) then
   (vH an N gs c r).map (⟨ws,free.filter fun p=>((ws.getD p.1 default).op.wr&&(ws.getD p.2 default).op.rd)||((ws.getD p.1 default).op.rd&&(ws.getD p.2 default).op.wr)⟩::·)
  else none
def uE (ops:Array Oper) (gs:List iY):Option (List tS):=
 if((List.range ops.size).all fun k=>(jG ops k).all fun p=>decide (p<k)) then vH (je ops) ops.size gs 0 (LS (je ops) ops.size) else none
noncomputable def dD (P:Program) (n:Nat):Code->Option LC
 | .skip=>some .skip
 | .region _ ops draw=>match mn P n ops ops.toList with
  |some gs=>if draw then(if P.follows .mixedOrders then(uE ops gs).map .drawn else none) else some (.region gs)
  |none=>none
 | .seq a b=>match dD P n a,dD P n b with
  |some a,some b=>some (.seq a b)
  |_,_=>none
 | .cond c a b=>match cQ c,dD P n a,dD P n b with
  |some c,some a,some b=>some (.cond c a b)
  |_,_,_=>none
 | .block id c=>(dD P n c).map (.block id ·)
 | .loop c=>(dD P n c).map .loop
 | .exit id=>some (.exit id)
 | .ret=>some .ret
 |_=>none
inductive Ex where
 |normal
 |exit (id:Nat)
 |ret
def Ex.to:Ex->Exit
 | .normal=> .normal
 | .exit id=> .exit id
 | .ret=> .ret
abbrev QT:=Ex->Fr->Hp->Nat->Prop
def LQ (w0:World) (M0:Nat->Prop) (c0:Cx) (lo n:Nat) (Q:QT):Exit->Act->World->Prop:=fun e a w=>∃x fr H nx,e=x.to/\Q x fr H nx/\Holds w0 M0 c0 lo n fr H nx a w
def WL (P:Program) (n lo:Nat) (lc:LC) (fr:Fr) (H:Hp) (nx:Nat) (Q:QT):Prop:=
 ∀code,dD P n code=some lc->∀w0 M0 c0 a w,Holds w0 M0 c0 lo n fr H nx a w->code.wp P (LQ w0 M0 c0 lo n Q) a w
def jH (K:Fr->Hp->Nat->Prop) (Q:QT):QT
 | .normal=>K
 |e=>Q e
def CL (id:Nat) (Q:QT):QT
 | .exit id',fr,H,nx=>if id'=id then Q .normal fr H nx else Q (.exit id') fr H nx
 |e,fr,H,nx=>Q e fr H nx
section
variable {P:Program} {n lo:Nat} {fr:Fr} {H:Hp} {nx:Nat} {Q:QT}
theorem WL.mono {lc:LC} {Q':QT} (h:WL P n lo lc fr H nx Q) (hq:∀e fr H nx,Q e fr H nx->Q' e fr H nx):WL P n lo lc fr H nx Q':=
 fun code hc w0 M0 c0 a w hh=>Code.wp_mono (fun _ _ _ ⟨x,fr,H,nx,he,hQ,hhh⟩=>⟨x,fr,H,nx,he,hq _ _ _ _ hQ,hhh⟩) (h code hc w0 M0 c0 a w hh)
theorem WL.skip (h:Q .normal fr H nx):WL P n lo .skip fr H nx Q:=by
 intro code hc w0 M0 c0 a w hh
 have:code= .skip:=by
  cases code<;>simp only[dD] at hc
  all_goals first|rfl|(exfalso;repeat' (split at hc))<;>simp at hc
 subst this
 exact wp_skip ⟨.normal,fr,H,nx,rfl,h,hh⟩
theorem WL.ret (h:Q .ret fr H nx):WL P n lo .ret fr H nx Q:=by
 intro code hc w0 M0 c0 a w hh
 have:code= .ret:=by
  cases code<;>simp only[dD] at hc
  all_goals first|rfl|(exfalso;repeat' (split at hc))<;>simp at hc
 subst this
 exact wp_ret ⟨.ret,fr,H,nx,rfl,h,hh⟩
theorem WL.exit {id:Nat} (h:Q (.exit id) fr H nx):WL P n lo (.exit id) fr H nx Q:=by
 intro code hc w0 M0 c0 a w hh
 have:code= .exit id:=by
  cases code<;>simp only[dD] at hc
  case exit id'=>simp at hc;rw[hc]
  all_goals (exfalso;repeat' (split at hc))<;>simp at hc
 subst this
 exact wp_exit ⟨.exit id,fr,H,nx,rfl,h,hh⟩
theorem WL.seq {x y:LC} (h:WL P n lo x fr H nx (jH (fun fr H nx=>WL P n lo y fr H nx Q) Q)):WL P n lo (.seq x y) fr H nx Q:=by
 intro code hc w0 M0 c0 a w hh
 have:∃c1 c2,code= .seq c1 c2/\dD P n c1=some x/\dD P n c2=some y:=by
  cases code<;>simp only[dD] at hc
  case seq c1 c2=>
   split at hc
   ·rename_i x' y' h1 h2
    simp only[Option.some.injEq,LC.seq.injEq] at hc
    obtain⟨rfl,rfl⟩:=hc
    exact⟨c1,c2,rfl,h1,h2⟩
   ·simp at hc
  all_goals (exfalso;repeat' (split at hc))<;>simp at hc
 obtain⟨c1,c2,rfl,h1,h2⟩:=this
 refine wp_seq (Code.wp_mono ?_ (h c1 h1 w0 M0 c0 a w hh))
 rintro e a' w' ⟨x',fr',H',nx',rfl,hQ,hh'⟩
 cases x' with
 |normal=>exact hQ c2 h2 w0 M0 c0 a' w' hh'
 |exit id=>exact⟨.exit id,fr',H',nx',rfl,hQ,hh'⟩
 |ret=>exact⟨.ret,fr',H',nx',rfl,hQ,hh'⟩
theorem WL.cond {c:eO} {x y:LC} {t:Bool} (hc:ev fr c= .sc (.bool t)) (h1:t=true->WL P n lo x fr H nx Q) (h2:t=false->WL P n lo y fr H nx Q):WL P n lo (.cond c x y) fr H nx Q:=by
 intro code hcode w0 M0 c0 a w hh
 have:∃c' c1 c2,code= .cond c' c1 c2/\cQ c'=some c/\dD P n c1=some x/\dD P n c2=some y:=by
  cases code<;>simp only[dD] at hcode
  case cond c' c1 c2=>
   split at hcode
   ·rename_i c'' x' y' g1 g2 g3
    simp only[Option.some.injEq,LC.cond.injEq] at hcode
    obtain⟨rfl,rfl,rfl⟩:=hcode
    exact⟨c',c1,c2,rfl,g1,g2,g3⟩
   ·simp at hcode
  all_goals (exfalso;repeat' (split at hcode))<;>simp at hcode
 obtain⟨c',c1,c2,rfl,g1,g2,g3⟩:=this
 have hh':=hh
 obtain⟨_,_,ρ,U,_,_,hF,_⟩:=hh'
 have hv:=gY hF g1
 rw[hc,VR] at hv
 exact wp_cond_split hv (fun ht=>h1 ht c1 g2 w0 M0 c0 a w hh) (fun ht=>h2 ht c2 g3 w0 M0 c0 a w hh)
theorem WL.block {id:Nat} {x:LC} (h:WL P n lo x fr H nx (CL id Q)):WL P n lo (.block id x) fr H nx Q:=by
 intro code hc w0 M0 c0 a w hh
 have:∃c1,code= .block id c1/\dD P n c1=some x:=by
  cases code<;>simp only[dD] at hc
  case block id' c1=>
   simp only[Option.map_eq_some_iff,LC.block.injEq] at hc
   obtain⟨x',h1,rfl,rfl⟩:=hc
   exact⟨c1,rfl,h1⟩
  all_goals (exfalso;repeat' (split at hc))<;>simp at hc
 obtain⟨c1,rfl,h1⟩:=this
 refine wp_block (Code.wp_mono ?_ (h c1 h1 w0 M0 c0 a w hh))
 rintro e a' w' ⟨x',fr',H',nx',rfl,hQ,hh'⟩
 cases x' with
 |normal=>exact⟨.normal,fr',H',nx',rfl,hQ,hh'⟩
 |exit id'=>
  simp only[Ex.to,Exit.inBlock]
  simp only[CL] at hQ
  split
  ·rename_i he;rw[if_pos he] at hQ;exact⟨.normal,fr',H',nx',rfl,hQ,hh'⟩
  ·rename_i he;rw[if_neg he] at hQ;exact⟨.exit id',fr',H',nx',rfl,hQ,hh'⟩
 |ret=>exact⟨.ret,fr',H',nx',rfl,hQ,hh'⟩
theorem WL.region {gs:List iY} (h:fu P nx gs fr H (fun fr H nx=>Q .normal fr H nx)):WL P n lo (.region gs) fr H nx Q:=by
 intro code hc w0 M0 c0 a w hh
 have:∃id ops,code= .region id ops false/\mn P n ops ops.toList=some gs:=by
  cases code<;>simp only[dD] at hc
  case region id ops draw=>
   split at hc
   ·rename_i gs' h1
    cases draw with
    |false=>
     simp only[Bool.false_eq_true,if_false,Option.some.injEq,LC.region.injEq] at hc
     subst hc
     exact⟨id,ops,rfl,h1⟩
    |true=>
     exfalso
     simp only[if_true] at hc
     split at hc
     ·simp[Option.map_eq_some_iff] at hc
     ·simp at hc
   ·simp at hc
  all_goals (exfalso;repeat' (split at hc))<;>simp at hc
 obtain⟨id,ops,rfl,h1⟩:=this
 refine wp_region_list (jj h1 hh h fun fr' H' nx' a' w' hK hh'=>⟨.normal,fr',H',nx',rfl,hK,hh'⟩)
def CC (lo n:Nat) (fr:Fr) (H:Hp) (nx:Nat) (fr':Fr) (H':Hp) (nx':Nat):Prop:=
 ∀w0 M0 c0 a w,Holds w0 M0 c0 lo n fr H nx a w->Holds w0 M0 c0 lo n fr' H' nx' a w
theorem WL.UZ {lc:LC} {fr':Fr} {H':Hp} {nx':Nat} (hw:CC lo n fr H nx fr' H' nx') (h:WL P n lo lc fr' H' nx' Q):WL P n lo lc fr H nx Q:=
 fun code hc w0 M0 c0 a w hh=>h code hc w0 M0 c0 a w (hw w0 M0 c0 a w hh)
def yX:Option fH->Option fH->Prop
 |some (.row e sz _ es),some (.row e' sz' _ es')=>e=e'/\sz=sz'/\es=es'
 |_,none=>True
 |none,some _=>False
def V3 (n:Nat):Option fH->Prop
 |some (.row _ _ _ es)=>c8 n es
 |none=>True
def QD (nx:Nat) (fr:Fr):Fr->Prop
 |[]=>True
 |(t,v)::r=>(v= .any\/(cq fr t=v/\cH nx v))/\QD nx fr r
def QP (nx:Nat) (H:Hp):Hp->Prop
 |[]=>True
 |(b,k)::r=>(b<nx/\yX (bt H b) k/\V3 nx k)/\QP nx H r
theorem z8 {fr:Fr} {nx:Nat}:∀{fr':Fr},QD nx fr fr'->∀t,cq fr' t= .any\/(cq fr t=cq fr' t/\cH nx (cq fr' t))
 |[],_,t=> .inl rfl
 |(d,v)::r,h,t=>by
  simp only[QD] at h
  simp only[cq]
  by_cases ht:t=d
  ·subst ht
   rw[if_pos rfl]
   exact h.1
  ·rw[if_neg ht]
   exact z8 h.2 t
theorem zo {H:Hp} {nx:Nat}:∀{H':Hp},QP nx H H'->∀b,bt H' b=none\/(b<nx/\yX (bt H b) (bt H' b)/\V3 nx (bt H' b))
 |[],_,b=> .inl rfl
 |(d,k)::r,h,b=>by
  simp only[QP] at h
  simp only[bt]
  by_cases hb:b=d
  ·subst hb
   rw[if_pos rfl]
   exact .inr h.1
  ·rw[if_neg hb]
   exact zo h.2 b
theorem CC.mk {fr':Fr} {H':Hp} {nx':Nat} (hlo:lo<=nx') (h1:QD nx' fr fr') (h2:QP nx' H H'):CC lo n fr H nx fr' H' nx':=by
 rintro w0 M0 c0 a w ⟨hn,hd,ρ,U,hU,hS,hF,hT⟩
 have hrow:∀b e sz d es,bt H' b=some (.row e sz d es)->b<nx'/\(∃d',bt H b=some (.row e sz d' es))/\c8 nx' es:=by
  intro b e sz d es he
  rcases zo h2 b with h0|⟨hb,hs,hf⟩
  ·rw[h0] at he;cases he
  ·rw[he] at hs hf
   refine⟨hb, ?_,hf⟩
   cases hg:bt H b with
   |none=>rw[hg] at hs;exact hs.elim
   |some k=>
    obtain⟨e',sz',d',es'⟩:=k
    rw[hg] at hs
    simp only[yX] at hs
    obtain⟨rfl,rfl,rfl⟩:=hs
    exact⟨d',rfl⟩
 have hle:Cx.WJ nx' ⟨ρ,bt H,U,w,M0⟩ ⟨ρ,bt H',fun b=>U b/\b<nx',w,M0⟩:=by
  refine⟨fun b hb hu=>⟨hu,hb⟩,fun b hm _=>⟨rfl, ?_⟩,fun b hb hu e sz d es he=> ?_⟩
  ·rintro(h0|⟨x,k,o,z,hk,hρ⟩)
   ·exact hm (.inl h0)
   ·obtain⟨e,sz,d,es⟩:=k
    obtain⟨_,⟨d',hg⟩,_⟩:=hrow x e sz d es hk
    exact hm (.inr ⟨x,_,o,z,hg,hρ⟩)
  ·obtain⟨_,⟨d',hg⟩,_⟩:=hrow b e sz d es he
   exact⟨e,d',es,hg, .inl ⟨rfl,rfl⟩⟩
 refine⟨hn,hd,ρ,fun b=>U b/\b<nx',fun b hb=>hb.2,⟨hS.below,hS.m0,fun b e sz d es he=> ?_,fun b b' k k' blk o z o' z' hk hk' hρ hρ'=> ?_⟩,fun t=> ?_, ?_⟩
 ·obtain⟨hb,⟨d',hg⟩,hf⟩:=hrow b e sz d es he
  obtain⟨p1,p3⟩:=hS.row b e sz d' es hg
  exact⟨⟨p1,hb⟩,p3.gz hle rfl rfl hf⟩
 ·obtain⟨e,sz,d,es⟩:=k
  obtain⟨e',sz',d',es'⟩:=k'
  obtain⟨_,⟨_,hg⟩,_⟩:=hrow _ _ _ _ _ hk
  obtain⟨_,⟨_,hg'⟩,_⟩:=hrow _ _ _ _ _ hk'
  exact hS.inj b b' _ _ blk o z o' z' hg hg' hρ hρ'
 ·rcases z8 h1 t with h0|⟨he,hf⟩
  ·rw[h0,VR];trivial
  ·rw[<-he]
   rw[<-he] at hf
   exact VR.gz hle hf (hF t)
 ·refine⟨hT.1,⟨fun b hb=>⟨hT.2.U b hb,by have:=hT.1 b hb;omega⟩,hT.2.sz,fun b hm hl=> ?_,fun b hb e sz d es he=> ?_⟩⟩
  ·obtain⟨k1,k2⟩:=hT.2.blk b hm hl
   refine⟨k1, ?_⟩
   rintro(h0|⟨x,k,o,z,hk,hρ⟩)
   ·exact k2 (.inl h0)
   ·obtain⟨e,sz,d,es⟩:=k
    obtain⟨_,⟨d',hg⟩,_⟩:=hrow x e sz d es hk
    exact k2 (.inr ⟨x,_,o,z,hg,hρ⟩)
  ·obtain⟨_,⟨d',hg⟩,_⟩:=hrow b e sz d es he
   exact hT.2.row b hb e sz d' es hg
theorem WL.loop {σ:Type} {x:LC} (F:σ->Fr) (G:σ->Hp) (nx0:Nat) (I:σ->Prop) (μ:σ->Nat) (s0:σ) (h0:I s0) (hw:CC lo n fr H nx (F s0) (G s0) nx0)
 (round:∀s,I s->WL P n lo x (F s) (G s) nx0 (jH (fun fr' H' nx'=>∃s',I s'/\μ s'<μ s/\CC lo n fr' H' nx' (F s') (G s') nx0) Q)):WL P n lo (.loop x) fr H nx Q:=by
 intro code hc w0 M0 c0 a w hh
 have:∃c1,code= .loop c1/\dD P n c1=some x:=by
  cases code<;>simp only[dD] at hc
  case loop c1=>
   simp only[Option.map_eq_some_iff,LC.loop.injEq] at hc
   obtain⟨x',h1,rfl⟩:=hc
   exact⟨c1,rfl,h1⟩
  all_goals (exfalso;repeat' (split at hc))<;>simp at hc
 obtain⟨c1,rfl,h1⟩:=this
 intro b k cs
 have key:∀m,∀s,μ s=m->I s->∀a w,Holds w0 M0 c0 lo n (F s) (G s) nx0 a w->
  ∃e a' w',LQ w0 M0 c0 lo n Q e a' w'/\Arrives P (lone (b.at a (.code c1:: .inLoop c1::k)) cs w) b k cs e a' w':=by
  intro m
  induction m using Nat.strongRecOn with
  |_ m ih=>
   intro s hs hI a w hh
   obtain⟨e,a1,w1,hq,harr⟩:=round s hI c1 h1 w0 M0 c0 a w hh b (.inLoop c1::k) cs
   obtain⟨x',fr',H',nx',rfl,hQ,hh'⟩:=hq
   cases x' with
   |normal=>
    obtain⟨s',hI',hlt,hwk⟩:=hQ
    obtain⟨e2,a2,w2,hq2,harr2⟩:=ih (μ s') (by omega) s' rfl hI' a1 w1 (hwk _ _ _ _ _ hh')
    exact⟨e2,a2,w2,hq2, .of_steps (Steps.trans harr (.one step_inLoop)) harr2⟩
   |exit id=>exact⟨_,a1,w1,⟨.exit id,fr',H',nx',rfl,hQ,hh'⟩, .pass (x:= .inLoop c1) rfl (fun _ _=> .inl (by simp[Ex.to])) harr⟩
   |ret=>exact⟨_,a1,w1,⟨.ret,fr',H',nx',rfl,hQ,hh'⟩, .pass (x:= .inLoop c1) rfl (fun _ _=> .inl (by simp[Ex.to])) harr⟩
 obtain⟨e,a',w',hq,harr⟩:=key _ s0 rfl h0 a w (hw _ _ _ _ _ hh)
 exact⟨e,a',w',hq, .of_steps (.one step_loop) harr⟩
end
end Go.cw
/- Functions: what a call hands back. -/
namespace Go.cw
open Go.RowKit
def Pure (P:Program) (f:FuncId) (args:List AV) (R:AV->Prop):Prop:=
 jm P f/\∀(M:Nat->Prop) (w:World) (vs:List Value),yg w M->cu (base w M) args vs->
  Calls P f vs.toArray w fun e w'=>∃v r,e= .returned v/\R r/\cH 0 r/\VR (base w' M) r v/\Below w.heap.size w w'
theorem Pure.mono {P:Program} {f:FuncId} {args:List AV} {R R':AV->Prop} (h:Pure P f args R) (hr:∀r,R r->R' r):Pure P f args R':=
 ⟨h.1,fun M w vs hM hv=>(h.2 M w vs hM hv).mono fun _ _ ⟨v,r,he,hR,hf,hvr,hb⟩=>⟨v,r,he,hr r hR,hf,hvr,hb⟩⟩
theorem Pure.VX {P:Program} {f:FuncId} {args:List AV} {R:AV->Prop} {H:Hp} {id:Nat} {K:AV->Hp->Prop} (h:Pure P f args R) (hf:c8 0 args) (hK:∀r,R r->K r H):lO P f args H id K:=by
 refine⟨h.1,fun w0 c vs hS hH _ hv=> ?_⟩
 refine(h.2 c.M c.w vs hS.fit (hv.nr (fun _ h=>h) hf)).mono fun e w' hh=> ?_
 obtain⟨v,r,he,hR,_,hvr,hb⟩:=hh
 obtain⟨s1,s2⟩:=hS.world hb
 obtain⟨t1,t2⟩:=s1.used (U:=fun x=>c.U x\/x=id) fun _ h=> .inl h
 refine⟨v,r,H,c.ρ,he,hK r hR, ?_, ?_, ?_⟩
 ·rw[<-hH];exact t1
 ·rw[<-hH];exact s2.trans t2
 ·rw[<-hH]
  have:(base w' c.M).le { c with w:=w' }:=xi (c:={ c with w:=w' })
  exact VR.cc t2 (VR.cc this hvr)
def kG:Nat->List AV->Fr
 |_,[]=>[]
 |k,a::as=>(k,a)::kG (k+1) as
inductive lA where
 |tmp (t:Nat)
 |cell (t:Nat) (ag:Bool) (k:Nat)
def iQ (P:Program):List ResultVar->Option (List lA)
 |[]=>some []
 | .tmp t::r=>(iQ P r).map (.tmp t::·)
 | .cell t ty::r=>match gX P ty,kq P ty,iQ P r with
  |some ag,some k,some q=>if ag=false/\k≠1 then none else some (.cell t ag k::q)
  |_,_,_=>none
def ji (fr:Fr) (H:Hp):List lA->Option (List AV)
 |[]=>some []
 | .tmp t::r=>match ji fr H r with
  |some q=>some (cq fr t::q)
  |none=>none
 | .cell t ag k::r=>match k9 H (cq fr t) with
  |some (sz,e,off)=>match AF ag k e sz off,ji fr H r with
   |some x,some q=>some (x::q)
   |_,_=>none
  |none=>none
def pack:List AV->AV
 |[a]=>a
 |as=> .dI as
def RA (lrs:List lA) (R:AV->Prop):QT
 | .exit _,_,_,_=>False
 |_,fr,H,_=>ng (ji fr H lrs) fun rs=>cH 0 (dY H 6 (pack rs))/\R (dY H 6 (pack rs))
def Q9 (tmps:Array Value):ResultVar->Sem Value
 | .tmp t=>pure (tmps.getD t undef)
 | .cell a t=>do loadVar t (<-asAddr (tmps.getD a undef))
theorem EH (fn:Func) (tmps:Array Value):results fn tmps=(do let vs <-fn.results.mapM (Q9 tmps);pure (if h:vs.size=1 then vs[0] else .tuple vs)):=rfl
section
variable {P:Program} {w0:World} {c:Cx} {fr:Fr} {H:Hp}
theorem yO (hS:dy w0 c) (hH:c.H=bt H) {tmps:Array Value} (hF:FR c fr tmps):∀{rs:List ResultVar} {lrs:List lA} {avs:List AV},iQ P rs=some lrs->ji fr H lrs=some avs->
 ∃vs,(rs.mapM (Q9 tmps)).run P c.w= .ok vs c.w/\cu c avs vs
 |[],lrs,avs,h1,h2=>by
  simp only[iQ,Option.some.injEq] at h1
  subst h1
  simp only[ji,Option.some.injEq] at h2
  subst h2
  exact⟨[],by simp,by rw[cu]⟩
 | .tmp t::rs,lrs,avs,h1,h2=>by
  simp only[iQ,Option.map_eq_some_iff] at h1
  obtain⟨q,h1,rfl⟩:=h1
  simp only[ji] at h2
  split at h2
  ·rename_i q' hq
   simp only[Option.some.injEq] at h2
   subst h2
   obtain⟨vs,g1,g2⟩:=yO hS hH hF h1 hq
   refine⟨tmps.getD t undef::vs, ?_,by rw[cu];exact⟨_,_,rfl,hF t,g2⟩⟩
   rw[List.mapM_cons]
   simp only[Q9,Sem.run_bind,Sem.run_pure,Result.andThen_ok]
   rw[g1]
   rfl
  ·simp at h2
 | .cell t ty::rs,lrs,avs,h1,h2=>by
  simp only[iQ] at h1
  split at h1
  ·rename_i ag k q e1 e2 e3
   simp only[Option.ite_none_left_eq_some,Option.some.injEq] at h1
   obtain⟨hk1,rfl⟩:=h1
   simp only[ji] at h2
   split at h2
   ·rename_i sz e off hlk
    split at h2
    ·rename_i x q' hx hq
     simp only[Option.some.injEq] at h2
     subst h2
     obtain⟨vs,g1,g2⟩:=yO hS hH hF e3 hq
     obtain⟨blk,o',u,hv,hat,hve,hlt⟩:=rX hS hH (hF t) hlk
     obtain⟨y,hy,hry⟩:=uc (P:=P) e1 e2 hat hve hlt hx (fun hag=>by
      by_cases hk:k=1
      ·exact hk
      ·exact absurd ⟨hag,hk⟩ hk1)
     refine⟨y::vs, ?_,by rw[cu];exact⟨_,_,rfl,hry,g2⟩⟩
     rw[List.mapM_cons]
     simp only[Q9,Sem.run_bind,hv,asAddr,Sem.run_pure,Result.andThen_ok,hy]
     rw[g1]
     rfl
    ·simp at h2
   ·simp at h2
  ·simp at h1
theorem nh {fn:Func} (hS:dy w0 c) (hH:c.H=bt H) {tmps:Array Value} (hF:FR c fr tmps) {lrs:List lA} {avs:List AV} (h1:iQ P fn.results.toList=some lrs) (h2:ji fr H lrs=some avs):
 ∃v,(results fn tmps).run P c.w= .ok v c.w/\VR c (pack avs) v:=by
 obtain⟨vs,g1,g2⟩:=yO hS hH hF h1 h2
 have hl:=g2.length
 rw[EH,Array.mapM_eq_mapM_toList]
 simp only[Sem.run_bind,Sem.run_map,g1,Result.andThen_ok,Sem.run_pure]
 refine⟨_,rfl, ?_⟩
 match avs,vs,g2,hl with
 |[],[],g2,_=>simp;unfold pack;rw[VR];exact⟨#[],rfl,g2⟩
 |[x],[v],g2,_=>
  rw[cu] at g2
  obtain⟨v',vs',he,hx,_⟩:=g2
  simp only[List.cons.injEq] at he
  obtain⟨rfl,_⟩:=he
  simpa[pack] using hx
 |x::y::as,v::u::vs,g2,_=>simp;unfold pack;rw[VR];exact⟨_,rfl,g2⟩
theorem oP:∀{args:List AV} {vs:List Value} {k:Nat} {pre post:List Value},cu c args vs->pre.length=k->∀t,VR c (cq (kG k args) t) ((pre++vs++post).toArray.getD t undef)
 |[],vs,k,pre,post,h,_,t=>by simp only[kG,cq];rw[VR];trivial
 |a::as,vs,k,pre,post,h,hk,t=>by
  rw[cu] at h
  obtain⟨v,vs',rfl,h1,h2⟩:=h
  simp only[kG,cq]
  by_cases ht:t=k
  ·subst ht
   rw[if_pos rfl]
   simpa[<-hk] using h1
  ·rw[if_neg ht]
   have:=oP (k:=k+1) (pre:=pre++[v]) (post:=post) h2 (by simp[hk]) t
   simpa using this
theorem Pure.Q2 {f:FuncId} {fn:Func} {code:Code} {lc:LC} {args:List AV} {lrs:List lA} {R:AV->Prop} (hf:P.funcs[f]?=some fn) (hb:fn.body=some code) (hname:(fn.name== "runtime.NumGoroutine")=false)
 (hl:dD P fn.ntmps code=some lc) (hr:iQ P fn.results.toList=some lrs) (ha:args.length<=fn.ntmps)
 (h:WL P fn.ntmps 0 lc (kG 0 args) [] 0 (RA lrs R)):Pure P f args R:=by
 refine⟨⟨fn,hf,by simp[hb],hname⟩,fun M w vs hM hv=>calls_of_wp hf hb ?_⟩
 have hS:dy w ⟨fun _=>none,bt [],fun _=>False,w,M⟩:=⟨Below.refl _ _,hM,fun b e sz d es he=>by simp[bt] at he,fun b b' k k' blk o z o' z' hk=>by simp[bt] at hk⟩
 have hlen:=hv.length
 have hv':cu ⟨fun _=>none,bt [],fun _=>False,w,M⟩ args vs:=hv
 refine Code.wp_mono ?_ (h code hl w M ⟨fun _=>none,bt [],fun _=>False,w,M⟩ _ w ⟨?_,rfl,fun _=>none,fun _=>False,fun _ h=>h.elim,hS,fun t=> ?_,fun _ h=>h.elim,Cx.le.refl _⟩)
 ·rintro e a' w' ⟨x,fr',H',nx',rfl,hQ,hn,hd,ρ,U,hU,hS',hF,_⟩
  have fin:ng (ji fr' H' lrs) (fun rs=>cH 0 (dY H' 6 (pack rs))/\R (dY H' 6 (pack rs)))->a'.defers=[]/\∃v,(results fn a'.tmps).run P w'= .ok v w'/\
   ∃v1 r,Ending.returned v= .returned v1/\R r/\cH 0 r/\VR (base w' M) r v1/\Below w.heap.size w w':=by
   intro hq
   cases hres:ji fr' H' lrs with
   |none=>rw[hres] at hq;exact hq.elim
   |some avs=>
    rw[hres] at hq
    obtain⟨hfit,hR⟩:=hq
    obtain⟨v,g1,g2⟩:=nh (P:=P) (fn:=fn) hS' rfl hF hr hres
    exact⟨hd,v,g1,v,_,rfl,hR,hfit,l3 hS' rfl 6 hfit g2,hS'.below⟩
  cases x with
  |normal=>exact fin hQ
  |ret=>exact fin hQ
  |exit id=>exact hQ.elim
 ·simp[hlen];omega
 ·have:=oP (c:=⟨fun _=>none,bt [],fun _=>False,w,M⟩) (args:=args) (vs:=vs) (k:=0) (pre:=[]) (post:=List.replicate (fn.ntmps - vs.length) undef) hv' rfl t
  have e:(vs.toArray++Array.replicate (fn.ntmps - vs.toArray.size) undef)=([]++vs++List.replicate (fn.ntmps - vs.length) undef).toArray:=by
   apply Array.ext';simp
  simp only[e]
  exact this
end
end Go.cw
namespace Go.cw
theorem Pure.qZ {P:Program} {f:FuncId} {fn:Func} {lc:LC} {args:List AV} {lrs:List lA} {R:AV->Prop} (hf:P.funcs[f]?=some fn) (hname:(fn.name== "runtime.NumGoroutine")=false)
 (hl:(fn.body.bind (dD P fn.ntmps))=some lc) (hr:iQ P fn.results.toList=some lrs) (ha:args.length<=fn.ntmps)
 (h:WL P fn.ntmps 0 lc (kG 0 args) [] 0 (RA lrs R)):Pure P f args R:=by
 cases hb:fn.body with
 |none=>rw[hb] at hl;simp at hl
 |some code=>rw[hb] at hl;exact Pure.Q2 hf hb hname hl hr ha h
theorem Pure.dN {P:Program} {f:FuncId} {args:List AV} {R:AV->Prop} {H:Hp} {nx:Nat} {K:AV->Hp->Nat->Prop} (h:Pure P f args R) (hf:c8 0 args) (hK:∀r,R r->K r H nx):cU P f args H nx K:=by
 refine⟨h.1,fun w0 c vs hS hH hU hv=> ?_⟩
 refine(h.2 c.M c.w vs hS.fit (hv.nr (fun _ h=>h) hf)).mono fun e w' hh=> ?_
 obtain⟨v,r,he,hR,_,hvr,hb⟩:=hh
 obtain⟨s1,s2⟩:=hS.world hb
 refine⟨v,r,H,nx,c.ρ,c.U,he,hK r hR,hU, ?_, ?_, ?_⟩
 ·rw[<-hH];exact s1
 ·rw[<-hH];exact s2
 ·rw[<-hH]
  have:(base w' c.M).le { c with w:=w' }:=xi (c:={ c with w:=w' })
  exact VR.cc this hvr
def UH (lrs:List lA) (R:AV->Hp->Nat->Prop):QT
 | .exit _,_,_,_=>False
 |_,fr,H,nx=>ng (ji fr H lrs) fun rs=>R (pack rs) H nx
theorem cU.qZ {P:Program} {f:FuncId} {fn:Func} {lc:LC} {args:List AV} {lrs:List lA} {H:Hp} {nx:Nat} {R:AV->Hp->Nat->Prop} (hf:P.funcs[f]?=some fn) (hname:(fn.name== "runtime.NumGoroutine")=false)
 (hl:(fn.body.bind (dD P fn.ntmps))=some lc) (hr:iQ P fn.results.toList=some lrs) (ha:args.length<=fn.ntmps)
 (h:WL P fn.ntmps nx lc (kG 0 args) H nx (UH lrs R)):cU P f args H nx R:=by
 cases hb:fn.body with
 |none=>rw[hb] at hl;simp at hl
 |some code=>
 rw[hb] at hl
 refine⟨⟨fn,hf,by simp[hb],hname⟩,fun w0 c vs hS hH hU hv=>calls_of_wp hf hb ?_⟩
 obtain⟨ρ0,H0,U0,w,M0⟩:=c
 simp only at hH hU
 subst hH
 have hlen:=hv.length
 refine Code.wp_mono ?_ (h code hl w0 M0 ⟨ρ0,bt H,U0,w,M0⟩ _ w ⟨?_,rfl,ρ0,U0,hU,hS,fun t=> ?_,hU,Cx.le.refl _⟩)
 ·rintro e a' w' ⟨x,fr',H',nx',rfl,hQ,hn,hd,ρ,U,hU',hS',hF,_,hle⟩
  have fin:ng (ji fr' H' lrs) (fun rs=>R (pack rs) H' nx')->a'.defers=[]/\∃v,(results fn a'.tmps).run P w'= .ok v w'/\
   ∃v1 r H1 nx1 ρ1 U1,Ending.returned v= .returned v1/\R r H1 nx1/\(∀b,U1 b->b<nx1)/\dy w0 ⟨ρ1,bt H1,U1,w',M0⟩/\Cx.le ⟨ρ0,bt H,U0,w,M0⟩ ⟨ρ1,bt H1,U1,w',M0⟩/\VR ⟨ρ1,bt H1,U1,w',M0⟩ r v1:=by
   intro hq
   cases hres:ji fr' H' lrs with
   |none=>rw[hres] at hq;exact hq.elim
   |some avs=>
    rw[hres] at hq
    obtain⟨v,g1,g2⟩:=nh (P:=P) (fn:=fn) hS' rfl hF hr hres
    exact⟨hd,v,g1,v,_,H',nx',ρ,U,rfl,hq,hU',hS',hle,g2⟩
  cases x with
  |normal=>exact fin hQ
  |ret=>exact fin hQ
  |exit id=>exact hQ.elim
 ·simp[hlen];omega
 ·have:=oP (c:=⟨ρ0,bt H,U0,w,M0⟩) (args:=args) (vs:=vs) (k:=0) (pre:=[]) (post:=List.replicate (fn.ntmps - vs.length) undef) hv rfl t
  have e:(vs.toArray++Array.replicate (fn.ntmps - vs.toArray.size) undef)=([]++vs++List.replicate (fn.ntmps - vs.length) undef).toArray:=by
   apply Array.ext';simp
  simp only[e]
  exact this
end Go.cw
end
