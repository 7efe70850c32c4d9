import Derived.Test.YtjopoheligmmoaaGreatDoorM7
namespace Go.cp
open Go.RowKit
def gK:AV->List Nat
 | .sl b _=>[b]
 | .pt b _ _ _=>[b]
 | .sv b _ _ _=>[b]
 | .mp b=>[b]
 |_=>[]
def eQ (fr:Fr) (op:dM):List Nat:=if op.rd then op.eC.flatMap (fun x=>gK (ev fr x)) else[]
def ny (P:Program) (id:Nat) (f:AV) (args:List AV) (H:Hp) (r:AV) (u:Option (Nat×e8)) (S:List Nat):Prop:=
 match f with
 | .fn (.func g) first caps=>(∀H1,(∀b∈S,bw H1 b=bw H b)->jy P g (first++args++caps) H1 id (fun r' H'=>r'=r/\H'=dH H1 u))/\(∀b q,u=some (b,q)->b=id)
 |_=>False
theorem Pure.NX {P:Program} {id:Nat} {g:FuncId} {first args caps:List AV} {H:Hp} {r:AV} (hf:c8 0 (first++args++caps)) (h:Pure P g (first++args++caps) (fun r'=>r'=r)):ny P id (.fn (.func g) first caps) args H r none []:=
 ⟨fun H1 _=>h.QN hf fun _ hr=>⟨hr,rfl⟩,fun _ _ h=>by cases h⟩
def fO (P:Program) (id:Nat) (fr:Fr) (H:Hp) (op:dM) (r:AV) (u:Option (Nat×e8)) (S:List Nat):Prop:=
 match op with
 | .call f args=>ny P id (ev fr f) (tL fr args) H r u S
 |op=>cE id fr H op=some (r,u)/\S=eQ fr op
def tH (P:Program) (id:Nat) (fr:Fr) (H:Hp) (g:gS) (r:AV) (u:Option (Nat×e8)) (S:List Nat):Prop:=
 dR fr g.guard (fO P id fr H g.op r u S) (r= .sc undef/\u=none)
def lN (P:Program) (id:Nat) (fr:Fr) (H:Hp) (op:dM) (K:AV->Option (Nat×e8)->List Nat->Prop):Prop:=
 match op with
 | .call f args=>∃r u S,ny P id (ev fr f) (tL fr args) H r u S/\K r u S
 |op=>mD (cE id fr H op) fun p=>K p.1 p.2 (eQ fr op)
abbrev Tr:=List (List Nat×Option Nat)
def iV (P:Program):Nat->List gS->Fr->Hp->Tr->(Fr->Hp->Tr->Prop)->Prop
 |_,[],fr,H,tr,K=>K fr H tr
 |id,g::rest,fr,H,tr,K=>dR fr g.guard (lN P id fr H g.op fun r u S=>iV P (id+1) rest (fX fr g.dst r) (dH H u) (tr++[(S,u.map (·.1))]) K)
  (iV P (id+1) rest (fX fr g.dst (.sc undef)) H (tr++[([],none)]) K)
theorem dR.mono {fr:Fr} {g:Option (Nat×Bool)} {A A' B B':Prop} (h:dR fr g A B) (ha:A->A') (hb:B->B'):dR fr g A' B':=by
 unfold dR at *
 split
 ·simp only at h;exact ha h
 ·simp only at h
  split at h
  ·split at h
   ·rename_i ht;rw[if_pos ht];exact ha h
   ·rename_i ht;rw[if_neg ht];exact hb h
  ·exact hb h
  ·exact h.elim
theorem lN.mono {P:Program} {id:Nat} {fr:Fr} {H:Hp} {op:dM} {K K':AV->Option (Nat×e8)->List Nat->Prop} (h:lN P id fr H op K) (hk:∀r u S,K r u S->K' r u S):lN P id fr H op K':=by
 cases op
 case call f args=>obtain⟨r,u,S,h1,h2⟩:=h;exact⟨r,u,S,h1,hk _ _ _ h2⟩
 all_goals
  simp only[lN] at h ⊢
  generalize cE id fr H _=x at h ⊢
  cases x with
  |none=>exact h
  |some p=>exact hk _ _ _ h
theorem lN.PY {P:Program} {id:Nat} {fr:Fr} {H:Hp} {op:dM} {K:AV->Option (Nat×e8)->List Nat->Prop} (h:lN P id fr H op K):∃r u S,fO P id fr H op r u S/\K r u S:=by
 cases op
 case call f args=>obtain⟨r,u,S,h1,h2⟩:=h;exact⟨r,u,S,h1,h2⟩
 all_goals
  simp only[lN,fO] at h ⊢
  generalize cE id fr H _=x at h ⊢
  cases x with
  |none=>exact h.elim
  |some p=>exact⟨p.1,p.2,_,⟨rfl,rfl⟩,h⟩
structure It where
 dst:Option Nat
 r:AV
 u:Option (Nat×e8)
def iQ (L:Nat->Bool):Nat->List It->Fr->Fr
 |_,[],fr=>fr
 |k,it::its,fr=>iQ L (k+1) its (if L k then fX fr it.dst it.r else fr)
def iJ (L:Nat->Bool):Nat->List It->Hp->Hp
 |_,[],H=>H
 |k,it::its,H=>iJ L (k+1) its (if L k then dH H it.u else H)
theorem qN {fr:Fr} {d:Option Nat} {r:AV} {t:Nat} (h:d≠some t):cc (fX fr d r) t=cc fr t:=by
 cases d with
 |none=>rfl
 |some d=>simp only[fX,cc];rw[if_neg (fun e=>h (by rw[e]))]
theorem lp {fr:Fr} {r:AV} {t:Nat}:cc (fX fr (some t) r) t=r:=by simp[fX,cc]
theorem qO {H:Hp} {u:Option (Nat×e8)} {b:Nat} (h:∀k,u≠some (b,k)):bw (dH H u) b=bw H b:=by
 cases u with
 |none=>rfl
 |some p=>obtain⟨b',k⟩:=p;simp only[dH,bw];rw[if_neg (fun e=>h k (by rw[e]))]
theorem lq {H:Hp} {k:e8} {b:Nat}:bw (dH H (some (b,k))) b=some k:=by simp[dH,bw]
theorem iu {L L':Nat->Bool} {t:Nat}:∀{its:List It} {k:Nat} {fr fr':Fr},cc fr t=cc fr' t->(∀j it,its[j]?=some it->it.dst=some t->L (k+j)=L' (k+j))->cc (iQ L k its fr) t=cc (iQ L' k its fr') t
 |[],_,_,_,h,_=>h
 |it::its,k,fr,fr',h,hj=>by
  simp only[iQ]
  refine iu ?_ fun j it' hi hd=>by have:=hj (j+1) it' (by simpa using hi) hd;simpa[Nat.add_assoc,Nat.add_comm 1 j] using this
  by_cases hd:it.dst=some t
  ·have:=hj 0 it rfl hd
   simp only[Nat.add_zero] at this
   rw[this,hd]
   cases L' k
   ·simpa using h
   ·simp only[if_true,lp]
  ·cases L k<;>cases L' k<;>simp[qN hd,h]
theorem iw {L L':Nat->Bool} {b:Nat}:∀{its:List It} {k:Nat} {H H':Hp},bw H b=bw H' b->(∀(j:Nat) (it:It),its[j]?=some it->(∃q,it.u=some (b,q))->L (k+j)=L' (k+j))->bw (iJ L k its H) b=bw (iJ L' k its H') b
 |[],_,_,_,h,_=>h
 |it::its,k,H,H',h,hj=>by
  simp only[iJ]
  refine iw ?_ fun j it' hi hd=>by have:=hj (j+1) it' (by simpa using hi) hd;simpa[Nat.add_assoc,Nat.add_comm 1 j] using this
  by_cases hd:∃q,it.u=some (b,q)
  ·have:=hj 0 it rfl hd
   simp only[Nat.add_zero] at this
   obtain⟨q,hq⟩:=hd
   rw[this,hq]
   cases L' k
   ·simpa using h
   ·simp only[if_true,lq]
  ·have hd':∀q,it.u≠some (b,q):=fun q hq=>hd ⟨q,hq⟩
   cases L k<;>cases L' k<;>simp[qO hd',h]
theorem GM {L:Nat->Bool} {t i:Nat} {it:It} (hd:it.dst=some t):∀{its:List It} {k:Nat} {fr:Fr},its[i]?=some it->L (k+i)=true->(∀j it',i<j->its[j]?=some it'->it'.dst=some t->L (k+j)=false)->cc (iQ L k its fr) t=it.r:=by
 induction i with
 |zero=>
  intro its k fr hi hL hj
  cases its with
  |nil=>simp at hi
  |cons x its=>
   simp at hi
   subst hi
   simp only[iQ]
   have hL':L k=true:=hL
   rw[hL',if_pos rfl,hd]
   rw[iu (L':=fun _=>false) (fr':=fX fr (some t) x.r) rfl fun j it' hi' hd'=> ?_]
   ·have:∀(its:List It) (k:Nat) (fr:Fr),iQ (fun _=>false) k its fr=fr:=by
     intro its
     induction its with
     |nil=>intros;rfl
     |cons y ys ih=>intro k fr;simp only[iQ];exact ih _ _
    rw[this,lp]
   ·have:=hj (j+1) it' (by omega) (by simpa using hi') hd'
    simpa[Nat.add_assoc,Nat.add_comm 1 j] using this
 |succ i ih=>
  intro its k fr hi hL hj
  cases its with
  |nil=>simp at hi
  |cons x its=>
   simp only[iQ]
   refine ih (by simpa using hi) (by simpa[Nat.add_assoc,Nat.add_comm 1 i] using hL) fun j it' hij hi' hd'=> ?_
   have:=hj (j+1) it' (by omega) (by simpa using hi') hd'
   simpa[Nat.add_assoc,Nat.add_comm 1 j] using this
theorem GN {L:Nat->Bool} {b i:Nat} {q:e8} {it:It} (hd:it.u=some (b,q)):∀{its:List It} {k:Nat} {H:Hp},its[i]?=some it->L (k+i)=true->(∀(j:Nat) (it':It),i<j->its[j]?=some it'->(∃q,it'.u=some (b,q))->L (k+j)=false)->bw (iJ L k its H) b=some q:=by
 induction i with
 |zero=>
  intro its k H hi hL hj
  cases its with
  |nil=>simp at hi
  |cons x its=>
   simp at hi
   subst hi
   simp only[iJ]
   have hL':L k=true:=hL
   rw[hL',if_pos rfl,hd]
   rw[iw (L':=fun _=>false) (H':=dH H (some (b,q))) rfl fun j it' hi' hd'=> ?_]
   ·have:∀(its:List It) (k:Nat) (H:Hp),iJ (fun _=>false) k its H=H:=by
     intro its
     induction its with
     |nil=>intros;rfl
     |cons y ys ih=>intro k H;simp only[iJ];exact ih _ _
    rw[this,lq]
   ·have:=hj (j+1) it' (by omega) (by simpa using hi') hd'
    simpa[Nat.add_assoc,Nat.add_comm 1 j] using this
 |succ i ih=>
  intro its k H hi hL hj
  cases its with
  |nil=>simp at hi
  |cons x its=>
   simp only[iJ]
   refine ih (by simpa using hi) (by simpa[Nat.add_assoc,Nat.add_comm 1 i] using hL) fun j it' hij hi' hd'=> ?_
   have:=hj (j+1) it' (by omega) (by simpa using hi') hd'
   simpa[Nat.add_assoc,Nat.add_comm 1 j] using this
theorem pT (L:Nat->Bool):∀(its:List It) (k:Nat) (fr:Fr),iQ L (k+1) its fr=iQ (fun j=>L (j+1)) k its fr
 |[],_,_=>rfl
 |it::its,k,fr=>by simp only[iQ];exact pT L its (k+1) _
theorem pU (L:Nat->Bool):∀(its:List It) (k:Nat) (H:Hp),iJ L (k+1) its H=iJ (fun j=>L (j+1)) k its H
 |[],_,_=>rfl
 |it::its,k,H=>by simp only[iJ];exact pU L its (k+1) _
theorem rD:∀(its:List It) (k:Nat) (fr:Fr),iQ (fun _=>false) k its fr=fr
 |[],_,_=>rfl
 |_::its,k,fr=>by simp only[iQ];exact rD its _ _
theorem rF:∀(its:List It) (k:Nat) (H:Hp),iJ (fun _=>false) k its H=H
 |[],_,_=>rfl
 |_::its,k,H=>by simp only[iJ];exact rF its _ _
theorem yK {P:Program}:∀{gs:List gS} {id:Nat} {fr:Fr} {H:Hp} {tr:Tr} {K:Fr->Hp->Tr->Prop},iV P id gs fr H tr K->
 ∃(its:List It) (tl:Tr),its.length=gs.length/\tl.length=gs.length/\K (iQ (fun _=>true) 0 its fr) (iJ (fun _=>true) 0 its H) (tr++tl)/\
  ∀k g,gs[k]?=some g->∃it t,its[k]?=some it/\tl[k]?=some t/\it.dst=g.dst/\tH P (id+k) (iQ (fun j=>decide (j<k)) 0 its fr) (iJ (fun j=>decide (j<k)) 0 its H) g it.r it.u t.1/\
   t.2=it.u.map (·.1)/\(fO P (id+k) (iQ (fun j=>decide (j<k)) 0 its fr) (iJ (fun j=>decide (j<k)) 0 its H) g.op it.r it.u t.1\/it.u=none/\it.r= .sc undef/\dR (iQ (fun j=>decide (j<k)) 0 its fr) g.guard False True/\t.1=[])
 |[],id,fr,H,tr,K,h=>⟨[],[],rfl,rfl,by simpa[iQ,iJ,iV] using h,by simp⟩
 |g::gs,id,fr,H,tr,K,h=>by
  have cont:∀(r:AV) (u:Option (Nat×e8)) (t:List Nat×Option Nat),tH P id fr H g r u t.1->t.2=u.map (·.1)->(fO P id fr H g.op r u t.1\/u=none/\r= .sc undef/\dR fr g.guard False True/\t.1=[])->
   iV P (id+1) gs (fX fr g.dst r) (dH H u) (tr++[t]) K->∃(its:List It) (tl:Tr),its.length=(g::gs).length/\tl.length=(g::gs).length/\K (iQ (fun _=>true) 0 its fr) (iJ (fun _=>true) 0 its H) (tr++tl)/\
   ∀k g',(g::gs)[k]?=some g'->∃it t,its[k]?=some it/\tl[k]?=some t/\it.dst=g'.dst/\tH P (id+k) (iQ (fun j=>decide (j<k)) 0 its fr) (iJ (fun j=>decide (j<k)) 0 its H) g' it.r it.u t.1/\
    t.2=it.u.map (·.1)/\(fO P (id+k) (iQ (fun j=>decide (j<k)) 0 its fr) (iJ (fun j=>decide (j<k)) 0 its H) g'.op it.r it.u t.1\/it.u=none/\it.r= .sc undef/\dR (iQ (fun j=>decide (j<k)) 0 its fr) g'.guard False True/\t.1=[]):=by
   intro r u t hy ht2 ht1 hrun
   obtain⟨its,tl,l1,l2,hK,hall⟩:=yK hrun
   refine⟨⟨g.dst,r,u⟩::its,t::tl,by simp[l1],by simp[l2], ?_,fun k g' hk=> ?_⟩
   ·simp only[iQ,iJ,if_true]
    rw[pT,pU]
    simpa using hK
   ·have hF0:iQ (fun j=>decide (j<0)) 0 (⟨g.dst,r,u⟩::its) fr=fr:=by
     have:(fun j:Nat=>decide (j<0))=fun _=>false:=by funext j;simp
     rw[this];exact rD _ _ _
    have hH0:iJ (fun j=>decide (j<0)) 0 (⟨g.dst,r,u⟩::its) H=H:=by
     have:(fun j:Nat=>decide (j<0))=fun _=>false:=by funext j;simp
     rw[this];exact rF _ _ _
    cases k with
    |zero=>
     simp at hk
     subst hk
     refine⟨_,_,rfl,rfl,rfl, ?_⟩
     rw[hF0,hH0]
     exact⟨hy,ht2,ht1⟩
    |succ k=>
     obtain⟨it,t',e1,e2,e3,e4,e5,e6⟩:=hall k g' (by simpa using hk)
     have hFk:iQ (fun j=>decide (j<k+1)) 0 (⟨g.dst,r,u⟩::its) fr=iQ (fun j=>decide (j<k)) 0 its (fX fr g.dst r):=by
      simp only[iQ]
      rw[pT]
      simp
     have hHk:iJ (fun j=>decide (j<k+1)) 0 (⟨g.dst,r,u⟩::its) H=iJ (fun j=>decide (j<k)) 0 its (dH H u):=by
      simp only[iJ]
      rw[pU]
      simp
     refine⟨it,t',by simpa using e1,by simpa using e2,e3, ?_⟩
     rw[hFk,hHk,show id+(k+1)=id+1+k by omega]
     exact⟨e4,e5,e6⟩
  simp only[iV] at h
  unfold dR at h
  split at h
  ·rename_i hg
   obtain⟨r,u,S,h1,h2⟩:=h.PY
   exact cont r u (S,u.map (·.1)) (by simp only[tH,hg,dR];exact h1) rfl (.inl h1) h2
  ·rename_i d want hg
   split at h
   ·rename_i t ht
    split at h
    ·rename_i htw
     obtain⟨r,u,S,h1,h2⟩:=h.PY
     exact cont r u (S,u.map (·.1)) (by simp only[tH,hg,dR,ht];rw[if_pos htw];exact h1) rfl (.inl h1) h2
    ·rename_i htw
     exact cont (.sc undef) none ([],none) (by simp only[tH,hg,dR,ht];rw[if_neg htw];simp) rfl (.inr ⟨rfl,rfl,by simp only[hg,dR,ht];rw[if_neg htw];trivial,rfl⟩) h
   ·rename_i v hv ht
    have hB:∀A B:Prop,dR fr g.guard A B=B:=by
     intro A B
     simp only[hg,dR,ht]
     try(split<;>first|rfl|(exfalso;rename_i heq;cases heq;exact absurd rfl (hv _)))
    exact cont (.sc undef) none ([],none) (by rw[tH,hB];exact⟨rfl,rfl⟩) rfl (.inr ⟨rfl,rfl,by rw[hB];trivial,rfl⟩) h
   ·exact h.elim
section
section
variable {P:Program}
theorem cd {fr fr':Fr} {x:dz} (h:∀t∈oj x,cc fr t=cc fr' t):ev fr x=ev fr' x:=by
 cases x
 case m nm n=>simp only[ev,h n (by simp[oj])]
 all_goals first|rfl|exact h _ (by simp[oj])
theorem mU {fr fr':Fr}:∀{xs:List dz},(∀t∈xs.flatMap oj,cc fr t=cc fr' t)->tL fr xs=tL fr' xs
 |[],_=>rfl
 |x::xs,h=>by
  simp only[tL]
  rw[cd fun t ht=>h t (by simp[ht]),mU fun t ht=>h t (by
   simp only[List.flatMap_cons,List.mem_append];exact .inr ht)]
theorem uI {fr fr':Fr}:∀{ps:List (Nat×Nat×dz)},(∀t∈(ps.map (·.2.2)).flatMap oj,cc fr t=cc fr' t)->NK fr ps=NK fr' ps
 |[],_=>rfl
 |(i,j,x)::ps,h=>by
  simp only[NK]
  rw[cd fun t ht=>h t (by simp[ht]),uI fun t ht=>h t (by
   simp only[List.map_cons,List.flatMap_cons,List.mem_append];exact .inr ht)]
theorem uJ {fr fr':Fr}:∀{ps:List (Nat×dz)},(∀t∈(ps.map (·.2)).flatMap oj,cc fr t=cc fr' t)->B7 fr ps=B7 fr' ps
 |[],_=>rfl
 |(i,x)::ps,h=>by
  simp only[B7]
  rw[cd fun t ht=>h t (by simp[ht]),uJ fun t ht=>h t (by
   simp only[List.map_cons,List.flatMap_cons,List.mem_append];exact .inr ht)]
theorem xm {H H':Hp} {x:AV} (h:∀b∈gK x,bw H b=bw H' b):j6 H x=j6 H' x:=by
 cases x<;>simp only[j6]
 rw[h _ (by simp[gK])]
theorem zn {H H':Hp} {x:AV} (h:∀b∈gK x,bw H b=bw H' b):sO H x=sO H' x:=by
 unfold sO
 split<;>first|rfl|(rw[h _ (by simp[gK])])
theorem ko {H H':Hp} {x:AV} (h:∀b∈gK x,bw H b=bw H' b):gX H x=gX H' x:=by
 unfold gX
 split<;>first|rfl|(rw[h _ (by simp[gK])])
theorem qF {H H':Hp} {x:AV} {k:Nat} (h:∀b∈gK x,bw H b=bw H' b):yV H k x=yV H' k x:=by
 unfold yV
 split<;>first|rfl|(rw[h _ (by simp[gK])])
theorem ED {H H':Hp} {x i:AV} {k:Nat} {n:Option Nat} (h:∀b∈gK x,bw H b=bw H' b):F7 H k n x i=F7 H' k n x i:=by
 unfold F7
 split
 ·split
  ·split<;>first|rfl|(rw[h _ (by simp[gK])])
  ·split<;>first|rfl|(rw[h _ (by simp[gK])])
 ·rfl
theorem j7 {H H':Hp} {x:AV} (h:∀b∈gK x,bw H b=bw H' b):mapOf H x=mapOf H' x:=by
 cases x<;>simp only[mapOf]
 rw[h _ (by simp[gK])]
theorem zy {H H':Hp} {x:AV} (h:∀b∈gK x,bw H b=bw H' b):sW H x=sW H' x:=by
 unfold sW
 split<;>first|rfl|(rw[h _ (by simp[gK])])
theorem A6 {H H':Hp} {x:AV} {k:Nat} {lo hi:Option AV} (h:∀b∈gK x,bw H b=bw H' b):si H k lo hi x=si H' k lo hi x:=by
 unfold si
 split<;>first|rfl|(rw[h _ (by simp[gK])])
theorem zj {H H':Hp} {n:Nat} {x i:AV} (h:∀b∈gK x,bw H b=bw H' b):zi H n x i=zi H' n x i:=by
 unfold zi
 split<;>first|rfl|(rw[h _ (by simp[gK])])
theorem A5 {H H':Hp} {n:Nat} {x i:AV} (h:∀b∈gK x,bw H b=bw H' b):A1 H n x i=A1 H' n x i:=by
 unfold A1
 split<;>first|rfl|(rw[h _ (by simp[gK])])
theorem yS {id:Nat} {fr fr':Fr} {H H':Hp} {op:dM} (hF:∀t∈op.eC.flatMap oj,cc fr t=cc fr' t) (hH:∀b∈eQ fr op,bw H b=bw H' b):cE id fr H op=cE id fr' H' op:=by
 cases op
 case P1 z ps=>simp only[cE,uI hF]
 case NG e sz ag z n ps=>simp only[cE,uJ hF]
 case P8 f p q=>
  simp only[dM.eC,List.flatMap_append,List.mem_append] at hF
  simp only[cE,mU fun t ht=>hF t (.inl ht),mU fun t ht=>hF t (.inr ht)]
 case call f as=>rfl
 case alloc e sz ag z=>rfl
 case MO sz x lo hi=>
  simp only[dM.eC,List.flatMap_append,List.flatMap_cons,List.flatMap_nil,List.append_nil,List.mem_append] at hF
  have e:=cd fun t ht=>hF t (.inl (.inl ht))
  have e1:lo.map (ev fr)=lo.map (ev fr'):=by
   cases lo with
   |none=>rfl
   |some y=>simp only[Option.map_some,Option.some.injEq];exact cd fun t ht=>hF t (.inl (.inr (by simpa using ht)))
  have e2:hi.map (ev fr)=hi.map (ev fr'):=by
   cases hi with
   |none=>rfl
   |some y=>simp only[Option.map_some,Option.some.injEq];exact cd fun t ht=>hF t (.inr (by simpa using ht))
  simp only[cE,<-e,<-e1,<-e2]
  rw[A6 fun b hb=>hH b (by simp[eQ,dM.rd,dM.eC,hb])]
 all_goals simp only[dM.eC,List.flatMap_cons,List.flatMap_nil,List.append_nil,List.mem_append] at hF
 case QA sz x a b=>
  have e0:=cd fun t ht=>hF t (.inl ht)
  have e1:=cd fun t ht=>hF t (.inr (.inl ht))
  have e2:=cd fun t ht=>hF t (.inr (.inr ht))
  simp only[cE,<-e0,<-e1,<-e2]
 case pick a b k=>
  simp only[cE,cd fun t ht=>hF t (.inl ht),cd fun t ht=>hF t (.inr (.inl ht)),cd fun t ht=>hF t (.inr (.inr ht))]
 case ld ag k x=>
  have e:=cd hF
  simp only[cE,<-e,xm fun b hb=>hH b (by simpa[eQ,dM.rd,dM.eC] using hb)]
 case fa off x=>
  have e:=cd hF
  simp only[cE,<-e]
  split<;>first|rfl|(rename_i hx;rw[hH _ (by simp[eQ,dM.rd,dM.eC,hx,gK])])
 case len x=>
  have e:=cd hF
  simp only[cE,<-e,zn fun b hb=>hH b (by simpa[eQ,dM.rd,dM.eC] using hb)]
 case KX sz ag z x=>
  have e:=cd hF
  simp only[cE,<-e]
  split<;>first|rfl|(rename_i hx;rw[hH _ (by simp[eQ,dM.rd,dM.eC,hx,gK])])
 case OA x=>
  have e:=cd hF
  simp only[cE,<-e,ko (x:=ev fr x) fun b hb=>hH b (by simp[eQ,dM.rd,dM.eC,hb]),qF (x:=ev fr x) fun b hb=>hH b (by simp[eQ,dM.rd,dM.eC,hb])]
 case yA neg x=>
  have e:=cd hF
  simp only[cE,<-e,zy fun b hb=>hH b (by simpa[eQ,dM.rd,dM.eC] using hb)]
 case K1 sz x y=>
  have e1:=cd fun t ht=>hF t (.inl ht)
  have e2:=cd fun t ht=>hF t (.inr ht)
  simp only[cE,<-e1,<-e2,ko (x:=ev fr y) fun b hb=>hH b (by simp[eQ,dM.rd,dM.eC,hb]),qF (x:=ev fr y) fun b hb=>hH b (by simp[eQ,dM.rd,dM.eC,hb])]
  split<;>first|rfl|(rename_i hx _;rw[hH _ (by simp[eQ,dM.rd,dM.eC,hx,gK])])
 case st ag k x y=>
  have e1:=cd fun t ht=>hF t (.inl ht)
  have e2:=cd fun t ht=>hF t (.inr ht)
  simp only[cE,<-e1,<-e2]
  split<;>first|rfl|(rename_i hx;rw[hH _ (by simp[eQ,dM.rd,dM.eC,hx,gK])])
 case ia k n x i=>
  have e1:=cd fun t ht=>hF t (.inl ht)
  have e2:=cd fun t ht=>hF t (.inr ht)
  simp only[cE,<-e1,<-e2,ED (x:=ev fr x) fun b hb=>hH b (by simp[eQ,dM.rd,dM.eC,hb])]
 case app e sz bytes ag z s x=>
  have e1:=cd fun t ht=>hF t (.inl ht)
  have e2:=cd fun t ht=>hF t (.inr ht)
  simp only[cE,<-e1,<-e2,ko (x:=ev fr x) fun b hb=>hH b (by simp[eQ,dM.rd,dM.eC,hb]),qF (x:=ev fr x) fun b hb=>hH b (by simp[eQ,dM.rd,dM.eC,hb])]
  split
  ·split
   ·split<;>first|rfl|(rename_i hx;rw[hH _ (by simp[eQ,dM.rd,dM.eC,hx,gK])])
   ·rfl
  ·rfl
 case GP e bytes z s x=>
  have e1:=cd fun t ht=>hF t (.inl ht)
  have e2:=cd fun t ht=>hF t (.inr ht)
  simp only[cE,<-e1,<-e2]
  split
  ·split<;>first|rfl|(rename_i hx;rw[hH _ (by simp[eQ,dM.rd,dM.eC,hx,gK])])
  ·rfl
 case LU str ag z ok x k=>
  have e1:=cd fun t ht=>hF t (.inl ht)
  have e2:=cd fun t ht=>hF t (.inr ht)
  simp only[cE,<-e1,<-e2,j7 (x:=ev fr x) fun b hb=>hH b (by simp[eQ,dM.rd,dM.eC,hb])]
 case del str x k=>
  have e1:=cd fun t ht=>hF t (.inl ht)
  have e2:=cd fun t ht=>hF t (.inr ht)
  simp only[cE,<-e1,<-e2,j7 (x:=ev fr x) fun b hb=>hH b (by simp[eQ,dM.rd,dM.eC,hb])]
 case F8 str x k y=>
  have e1:=cd fun t ht=>hF t (.inl ht)
  have e2:=cd fun t ht=>hF t (.inr (.inl ht))
  have e3:=cd fun t ht=>hF t (.inr (.inr ht))
  simp only[cE,<-e1,<-e2,<-e3,j7 (x:=ev fr x) fun b hb=>hH b (by simp[eQ,dM.rd,dM.eC,hb])]
 case zo x=>
  have e:=cd hF
  simp only[cE,<-e,j7 fun b hb=>hH b (by simpa[eQ,dM.rd,dM.eC] using hb)]
 case NV kt=>rfl
 case w9 e sz v=>rfl
 case ND e n=>rfl
 case bad=>rfl
 case OU n x i=>
  have e1:=cd fun t ht=>hF t (.inl ht)
  have e2:=cd fun t ht=>hF t (.inr ht)
  simp only[cE,<-e1,<-e2,zj (x:=ev fr x) fun b hb=>hH b (by simp[eQ,dM.rd,dM.eC,hb])]
 case PJ n x i=>
  have e1:=cd fun t ht=>hF t (.inl ht)
  have e2:=cd fun t ht=>hF t (.inr ht)
  simp only[cE,<-e1,<-e2,A5 (x:=ev fr x) fun b hb=>hH b (by simp[eQ,dM.rd,dM.eC,hb])]
 case C9 sz v=>rfl
 all_goals first
  |(have e:=cd hF;simp only[cE,e];done)
  |(have e1:=cd fun t ht=>hF t (.inl ht);have e2:=cd fun t ht=>hF t (.inr ht);simp only[cE,e1,e2];done)
theorem yd {id:Nat} {fr fr':Fr} {H H':Hp} {op:dM} {r:AV} {u:Option (Nat×e8)} {S:List Nat} (hF:∀t∈op.eC.flatMap oj,cc fr t=cc fr' t) (h:fO P id fr H op r u S) (hH:∀b∈S,bw H b=bw H' b):fO P id fr' H' op r u S:=by
 by_cases hc:∃f as,op= .call f as
 ·obtain⟨f,as,rfl⟩:=hc
  simp only[dM.eC,List.flatMap_cons,List.mem_append] at hF
  simp only[fO] at h ⊢
  rw[<-cd fun t ht=>hF t (.inl ht),<-mU fun t ht=>hF t (.inr ht)]
  unfold ny at h ⊢
  split
  ·rename_i he
   simp only[he] at h
   exact⟨fun H1 h1=>h.1 H1 fun b hb=>(h1 b hb).trans (hH b hb).symm,h.2⟩
  ·rename_i hne
   split at h
   ·rename_i he;exact absurd he (hne _ _ _)
   ·exact h
 ·have e:∀fr H,fO P id fr H op r u S=(cE id fr H op=some (r,u)/\S=eQ fr op):=by
   intro fr H
   cases op<;>first|rfl|exact absurd ⟨_,_,rfl⟩ hc
  rw[e] at h ⊢
  obtain⟨h1,h2⟩:=h
  have hi:eQ fr op=eQ fr' op:=by
   unfold eQ
   split
   ·have:∀x∈op.eC,ev fr x=ev fr' x:=fun x hx=>cd fun t ht=>hF t (List.mem_flatMap.2 ⟨x,hx,ht⟩)
    have aux:∀l:List dz,(∀x∈l,ev fr x=ev fr' x)->(l.flatMap fun x=>gK (ev fr x))=l.flatMap fun x=>gK (ev fr' x):=by
     intro l
     induction l with
     |nil=>intro _;rfl
     |cons y l ih=>intro hl;simp only[List.flatMap_cons];rw[hl y (by simp),ih fun x hx=>hl x (by simp[hx])]
    exact aux _ this
   ·rfl
  refine⟨?_,h2.trans hi⟩
  rw[<-yS hF fun b hb=>hH b (by rw[h2];exact hb)]
  exact h1
theorem KC {id:Nat} {fr:Fr} {H:Hp} {op:dM} {r:AV} {b:Nat} {q:e8} {S:List Nat} (h:fO P id fr H op r (some (b,q)) S):op.wr=true/\(op.rd=false->b=id):=by
 cases op
 case call f as=>
  exact⟨rfl,fun hr=>by cases hr⟩
 case st=>exact⟨rfl,by simp[dM.rd]⟩
 case K1=>exact⟨rfl,by simp[dM.rd]⟩
 case KX=>exact⟨rfl,by simp[dM.rd]⟩
 case app=>exact⟨rfl,by simp[dM.rd]⟩
 case GP=>exact⟨rfl,by simp[dM.rd]⟩
 case F8=>exact⟨rfl,by simp[dM.rd]⟩
 case del=>exact⟨rfl,by simp[dM.rd]⟩
 case NV=>
  simp only[fO,cE,Option.some.injEq,Prod.mk.injEq] at h
  exact⟨rfl,fun _=>h.1.2.1.symm⟩
 case ND=>
  simp only[fO,cE,Option.some.injEq,Prod.mk.injEq] at h
  exact⟨rfl,fun _=>h.1.2.1.symm⟩
 case w9=>
  simp only[fO,cE,Option.some.injEq,Prod.mk.injEq] at h
  exact⟨rfl,fun _=>h.1.2.1.symm⟩
 case alloc=>
  simp only[fO,cE,Option.ite_none_right_eq_some,Option.some.injEq,Prod.mk.injEq] at h
  exact⟨rfl,fun _=>h.1.2.2.1.symm⟩
 case box=>
  simp only[fO,cE,Option.ite_none_right_eq_some,Option.some.injEq,Prod.mk.injEq] at h
  exact⟨rfl,fun _=>h.1.2.2.1.symm⟩
 case NG=>
  simp only[fO,cE,Option.ite_none_right_eq_some,Option.some.injEq,Prod.mk.injEq] at h
  exact⟨rfl,fun _=>h.1.2.2.1.symm⟩
 case O7=>
  simp only[fO,cE] at h
  split at h
  ·simp only[Option.ite_none_right_eq_some,Option.some.injEq,Prod.mk.injEq] at h
   exact⟨rfl,fun _=>h.1.2.2.1.symm⟩
  ·simp at h
 all_goals
  exfalso
  simp only[fO,cE] at h
  revert h
  repeat' split
  all_goals simp[Option.map_eq_some_iff]
theorem F6 {id:Nat} {fr:Fr} {H:Hp} {op:dM} {r:AV} {u:Option (Nat×e8)} {S:List Nat} (h:fO P id fr H op r u S) (hr:op.rd=false):S=[]:=by
 cases op
 case call f as=>cases hr
 all_goals
  have h2:=h.2
  rw[h2,eQ,hr];rfl
def zQ (s t:List Nat×Option Nat):Prop:=(∀b,s.2=some b->b∉t.1)/\(∀b,t.2=some b->b∉s.1)/\∀b,¬(s.2=some b/\t.2=some b)
def iO (tr:Tr) (ps:List (Nat×Nat)):Prop:=∀p∈ps,zQ (tr.getD p.1 ([],none)) (tr.getD p.2 ([],none))
theorem pq {n:Nat} {ops:Array Oper}:∀{l:List Oper} {gs:List gS},lR P n ops l=some gs->gs.length=l.length/\∀(k:Nat) (o:Oper),l[k]?=some o->∃g:gS,gs[k]?=some g/\lS P o=some g.op/\g.dst=o.dst/\(∀x,o.dst=some x->x<n)/\
 (match o.guard with|none=>g.guard=none|some (j,want)=>∃d,(ops[j]?).bind (·.dst)=some d/\g.guard=some (d,want))
 |[],gs,h=>by simp only[lR,Option.some.injEq] at h;subst h;simp
 |o::l,gs,h=>by
  simp only[lR] at h
  split at h
  ·rename_i lop gs' h1 h2
   simp only[Option.ite_none_right_eq_some] at h
   obtain⟨hd,h⟩:=h
   obtain⟨e1,e2⟩:=pq h2
   have hdst:∀x,o.dst=some x->x<n:=fun x hx=>by rw[hx] at hd;simpa using hd
   have key:∃gd,gs=⟨o.dst,gd,lop⟩::gs'/\(match o.guard with|none=>gd=none|some (j,want)=>∃d,(ops[j]?).bind (·.dst)=some d/\gd=some (d,want)):=by
    split at h
    ·rename_i hg
     simp only[Option.some.injEq] at h
     exact⟨none,h.symm,by rw[hg]⟩
    ·rename_i j want hg
     split at h
     ·rename_i d hd
      simp only[Option.some.injEq] at h
      exact⟨_,h.symm,by rw[hg];exact⟨d,hd,rfl⟩⟩
     ·simp at h
   obtain⟨gd,rfl,hgd⟩:=key
   refine⟨by simp[e1],fun k o' hk=> ?_⟩
   cases k with
   |zero=>
    simp at hk
    subst hk
    exact⟨_,rfl,h1,rfl,hdst,hgd⟩
   |succ k=>
    obtain⟨g,q1,q2⟩:=e2 k o' (by simpa using hk)
    exact⟨g,by simpa using q1,q2⟩
  ·simp at h
theorem lr {c:Cx} {fr:Fr} {a:Act} {o:Oper} {ops:Array Oper} {g:Option (Nat×Bool)} (hF:FR c fr a.tmps)
 (hg:match o.guard with|none=>g=none|some (j,want)=>∃d,(ops[j]?).bind (·.dst)=some d/\g=some (d,want)) {A B:Prop} (h:dR fr g A B):
 (Region.wanted o (yielded ops a.tmps)=true/\A)\/(Region.wanted o (yielded ops a.tmps)=false/\B):=by
 cases ho:o.guard with
 |none=>
  rw[ho] at hg
  simp only at hg
  subst hg
  exact .inl ⟨by simp[Region.wanted,ho],h⟩
 |some gd=>
  obtain⟨j,want⟩:=gd
  rw[ho] at hg
  obtain⟨d,hdj,rfl⟩:=hg
  simp only[dR] at h
  have hfd:=hF d
  simp only[Region.wanted,ho,yielded,hdj,Option.bind_some]
  split at h
  ·rename_i t ht
   rw[ht,VR] at hfd
   have hsome:a.tmps[d]?=some (.bool t):=by
    rw[Array.getD_eq_getD_getElem?] at hfd
    cases hx:a.tmps[d]? with
    |none=>rw[hx] at hfd;cases hfd
    |some y=>rw[hx] at hfd;simp at hfd;rw[hfd]
   simp only[hsome]
   by_cases htw:t=want
   ·rw[if_pos htw] at h;exact .inl ⟨by simp[htw],h⟩
   ·rw[if_neg htw] at h;exact .inr ⟨by simp[htw],h⟩
  ·rename_i u hu ht
   rw[ht,VR] at hfd
   have hno:∀t,a.tmps[d]?≠some (.bool t):=by
    intro t hx
    rw[Array.getD_eq_getD_getElem?,hx] at hfd
    exact hu t hfd.symm
   refine .inr ⟨?_,h⟩
   split
   ·rename_i b hb;exact absurd hb (hno b)
   ·simp
  ·exact h.elim
def F9 (pr:Nat->List Nat) (acc:List Nat):Prop:=
 ∀j i,(acc.getD j 0).testBit i=true->i<j/\∀L:Nat->Bool,(∀k,L k=true->∀p∈pr k,L p=true)->(∀p∈pr j,L p=true)->L i=true
theorem tf {acc:List Nat} {i:Nat}:∀{ps:List Nat},(vK acc ps).testBit i=true->∃p∈ps,p=i\/(acc.getD p 0).testBit i=true
 |[],h=>by simp[vK] at h
 |p::r,h=>by
  simp only[vK,Nat.testBit_or,Bool.or_eq_true] at h
  rcases h with h|h|h
  ·rw[Nat.testBit_shiftLeft] at h
   simp only[Bool.and_eq_true,decide_eq_true_eq,ge_iff_le] at h
   refine⟨p,by simp, .inl ?_⟩
   have h2:=h.2
   by_cases he:i - p=0
   ·omega
   ·rw[Nat.testBit_one_eq_true_iff_self_eq_zero] at h2;omega
  ·exact⟨p,by simp, .inr h⟩
  ·obtain⟨q,hq,h⟩:=tf h
   exact⟨q,by simp[hq],h⟩
theorem tg {pr:Nat->List Nat} (hb:∀k,∀p∈pr k,p<k):∀(l:List (List Nat)) (acc:List Nat),F9 pr acc->(∀k ps,l[k]?=some ps->ps=pr (acc.length+k))->F9 pr (KQ l acc)
 |[],acc,h,_=>h
 |ps::l,acc,h,hl=>by
  simp only[KQ]
  refine tg hb l _ ?_ fun k qs hk=> ?_
  ·intro j i hj
   by_cases hlt:j<acc.length
   ·have e:(acc++[vK acc ps]).getD j 0=acc.getD j 0:=by simp[List.getD,List.getElem?_append_left hlt]
    rw[e] at hj
    exact h j i hj
   ·by_cases he:j=acc.length
    ·subst he
     have e:(acc++[vK acc ps]).getD acc.length 0=vK acc ps:=by simp[List.getD]
     rw[e] at hj
     obtain⟨p,hp,hor⟩:=tf hj
     have hps:=hl 0 ps rfl
     simp only[Nat.add_zero] at hps
     rw[hps] at hp
     have hpl:=hb _ p hp
     rcases hor with rfl|hor
     ·exact⟨hpl,fun L _ h2=>h2 _ hp⟩
     ·obtain⟨g1,g2⟩:=h p i hor
      exact⟨by omega,fun L h1 h2=>g2 L h1 (h1 p (h2 p hp))⟩
    ·have e:(acc++[vK acc ps]).getD j 0=0:=by
      simp only[List.getD]
      rw[List.getElem?_eq_none (by simp;omega)]
      rfl
     rw[e] at hj
     simp at hj
  ·have:=hl (k+1) qs (by simpa using hk)
   rw[this]
   simp only[List.length_append,List.length_cons,List.length_nil]
   congr 1
   omega
theorem mR {ops:Array Oper} (hb:∀k,∀p∈gv ops k,p<k):F9 (gv ops) (iW ops):=
 tg hb _ [] (fun j i h=>by simp at h) fun k ps h=>by
  simp only[List.getElem?_map,Option.map_eq_some_iff] at h
  obtain⟨k',hk,rfl⟩:=h
  have:=List.getElem?_eq_some_iff.1 hk
  obtain⟨h1,h2⟩:=this
  simp at h2
  simp[h2]
theorem nP {an:List Nat} {N k i j:Nat} (h:cutAt an N k=true) (hi:i<k) (hk:k<=j) (hj:j<N):eB an i j=true:=by
 simp only[cutAt,List.all_eq_true,List.mem_range,beq_iff_eq] at h
 have h1:=h (j - k) (by omega)
 rw[show k+(j - k)=j by omega] at h1
 have h2:((an.getD j 0)%2^k).testBit i=true:=by rw[h1,Nat.testBit_two_pow_sub_one];simpa using hi
 rw[Nat.testBit_mod_two_pow] at h2
 simp only[Bool.and_eq_true] at h2
 exact h2.2
end
end
section
section
variable {P:Program} {n lo l0:Nat} {c0:Cx} {ops:Array Oper} {gs:List gS} {its:List It} {tl:Tr} {fr:Fr} {H:Hp} {nx:Nat} {w0:World} {M0:Nat->Prop} {ps:List (Nat×Nat)}
def fG (listed:Array Bool) (k:Nat):Bool:=listed.getD k false
structure N2 (P:Program) (n:Nat) (ops:Array Oper) (l0:Nat) (gs:List gS) (its:List It) (tl:Tr) (fr:Fr) (H:Hp) (nx:Nat):Prop where
 len:l0+gs.length<=ops.size
 low:∀(k:Nat) (o:Oper),k<gs.length->ops[l0+k]?=some o->∃g:gS,gs[k]?=some g/\lS P o=some g.op/\g.dst=o.dst/\(∀x,o.dst=some x->x<n)/\
  (match o.guard with|none=>g.guard=none|some (j,want)=>∃d,(ops[j]?).bind (·.dst)=some d/\g.guard=some (d,want))
 il:its.length=gs.length
 PY:∀(k:Nat) (g:gS),gs[k]?=some g->∃it t,its[k]?=some it/\tl[k]?=some t/\it.dst=g.dst/\tH P (nx+k) (iQ (fun j=>decide (j<k)) 0 its fr) (iJ (fun j=>decide (j<k)) 0 its H) g it.r it.u t.1/\
  t.2=it.u.map (·.1)/\(fO P (nx+k) (iQ (fun j=>decide (j<k)) 0 its fr) (iJ (fun j=>decide (j<k)) 0 its H) g.op it.r it.u t.1\/it.u=none/\it.r= .sc undef/\dR (iQ (fun j=>decide (j<k)) 0 its fr) g.guard False True/\t.1=[])
 back:∀k,∀p∈gv ops k,p<k
 free:∀i j,i<j->j<gs.length->eB (iW ops) (l0+i) (l0+j)=false->vL (gs.getD i default) (gs.getD j default)=true
 DN:∀i j,i<j->j<gs.length->eB (iW ops) (l0+i) (l0+j)=false->(((gs.getD i default).op.wr&&(gs.getD j default).op.rd)||((gs.getD i default).op.rd&&(gs.getD j default).op.wr))=true->zQ (tl.getD i ([],none)) (tl.getD j ([],none))
theorem j8 {N i j:Nat}:(i,j)∈mj N↔i<j/\j<N:=by
 simp only[mj,List.mem_flatMap,List.mem_range,List.mem_map,Prod.mk.injEq]
 constructor
 ·rintro⟨j',hj,i',hi,rfl,rfl⟩;exact⟨hi,hj⟩
 ·rintro⟨h1,h2⟩;exact⟨j,h2,i,h1,rfl,rfl⟩
theorem N2.apart (R:N2 P n ops l0 gs its tl fr H nx) {i j:Nat} {gi gj:gS} {a b:It} {s t:List Nat×Option Nat} (hne:i≠j) (hi:gs[i]?=some gi) (hj:gs[j]?=some gj) (ha:its[i]?=some a) (hb:its[j]?=some b) (hs:tl[i]?=some s) (ht:tl[j]?=some t)
 (h1:eB (iW ops) (l0+i) (l0+j)=false) (h2:eB (iW ops) (l0+j) (l0+i)=false):(∀d,a.dst=some d->d∉gj.ts/\b.dst≠some d)/\(∀d,b.dst=some d->d∉gi.ts)/\zQ s t:=by
 have main:∀{i j:Nat} {gi gj:gS} {a b:It} {s t:List Nat×Option Nat},i<j->gs[i]?=some gi->gs[j]?=some gj->its[i]?=some a->its[j]?=some b->tl[i]?=some s->tl[j]?=some t->eB (iW ops) (l0+i) (l0+j)=false->
  (∀d,a.dst=some d->d∉gj.ts/\b.dst≠some d)/\(∀d,b.dst=some d->d∉gi.ts)/\zQ s t:=by
  intro i j gi gj a b s t hij hi hj ha hb hs ht hbw
  have hjl:j<gs.length:=(List.getElem?_eq_some_iff.1 hj).1
  have gi':gs.getD i default=gi:=by simp[List.getD,hi]
  have gj':gs.getD j default=gj:=by simp[List.getD,hj]
  obtain⟨a',s',e1,e2,e3,e4,e5,e6⟩:=R.PY i gi hi
  obtain⟨b',t',f1,f2,f3,f4,f5,f6⟩:=R.PY j gj hj
  rw[ha] at e1;cases e1
  rw[hs] at e2;cases e2
  rw[hb] at f1;cases f1
  rw[ht] at f2;cases f2
  have hap:=R.free i j hij hjl hbw
  rw[gi',gj'] at hap
  simp only[vL,Bool.and_eq_true] at hap
  obtain⟨q1,q2⟩:=hap
  refine⟨fun d hd=> ?_,fun d hd=> ?_, ?_⟩
  ·rw[e3] at hd
   rw[hd] at q1
   simp only[Bool.and_eq_true,Bool.not_eq_true',bne_iff_ne,ne_eq] at q1
   refine⟨fun hm=> ?_,by rw[f3];exact q1.2⟩
   have:=q1.1
   simp at this
   exact this hm
  ·rw[f3] at hd
   rw[hd] at q2
   intro hm
   simp at q2
   exact q2 hm
  ·by_cases hw:((gi.op.wr&&gj.op.rd)||(gi.op.rd&&gj.op.wr))=true
   ·have:=R.DN i j hij hjl hbw (by rw[gi',gj'];exact hw)
    simpa[List.getD,hs,ht] using this
   ·have hwr:∀{x:It} {g:gS} {t:List Nat×Option Nat} {k bb:Nat},t.2=x.u.map (·.1)->t.2=some bb->(fO P (nx+k) (iQ (fun j=>decide (j<k)) 0 its fr) (iJ (fun j=>decide (j<k)) 0 its H) g.op x.r x.u t.1\/x.u=none/\x.r= .sc undef/\dR (iQ (fun j=>decide (j<k)) 0 its fr) g.guard False True/\t.1=[])->
     g.op.wr=true/\(g.op.rd=false->bb=nx+k):=by
     intro x g t k bb h1 h2 h3
     rw[h2] at h1
     cases hu:x.u with
     |none=>rw[hu] at h1;simp at h1
     |some p=>
      obtain⟨b0,q⟩:=p
      rw[hu] at h1
      simp at h1
      subst h1
      rcases h3 with h3|⟨h3,_⟩
      ·rw[hu] at h3;exact KC h3
      ·rw[hu] at h3;cases h3
    have hids:∀{x:It} {g:gS} {t:List Nat×Option Nat} {k:Nat},g.op.rd=false->(fO P (nx+k) (iQ (fun j=>decide (j<k)) 0 its fr) (iJ (fun j=>decide (j<k)) 0 its H) g.op x.r x.u t.1\/x.u=none/\x.r= .sc undef/\dR (iQ (fun j=>decide (j<k)) 0 its fr) g.guard False True/\t.1=[])->t.1=[]:=by
     intro x g t k h1 h2
     rcases h2 with h2|⟨_,_,_,h2⟩
     ·exact F6 h2 h1
     ·exact h2
    simp only[Bool.or_eq_true,Bool.and_eq_true,not_or,not_and,Bool.not_eq_true] at hw
    refine⟨fun b0 hb0=> ?_,fun b0 hb0=> ?_,fun b0 hb0=> ?_⟩
    ·have:=hwr e5 hb0 e6
     rw[hids (hw.1 this.1) f6];simp
    ·have h3:=hwr f5 hb0 f6
     have hri:gi.op.rd=false:=by
      cases hr:gi.op.rd with
      |false=>rfl
      |true=>have:=hw.2 hr;rw[h3.1] at this;cases this
     rw[hids hri e6];simp
    ·have h3:=hwr e5 hb0.1 e6
     have h4:=hwr f5 hb0.2 f6
     have hri:gi.op.rd=false:=by
      cases hr:gi.op.rd with
      |false=>rfl
      |true=>have:=hw.2 hr;rw[h4.1] at this;cases this
     have:=h3.2 hri
     have:=h4.2 (hw.1 h3.1)
     omega
 rcases Nat.lt_or_gt_of_ne hne with hlt|hgt
 ·exact main hlt hi hj ha hb hs ht h1
 ·obtain⟨m1,m2,m3⟩:=main hgt hj hi hb ha ht hs h2
  exact⟨fun d hd=>⟨m2 d hd,fun e=>(m1 d e).2 hd⟩,fun d hd=>(m1 d hd).1,m3.2.1,m3.1,fun b hb=>m3.2.2 b ⟨hb.2,hb.1⟩⟩
theorem N2.step (R:N2 P n ops l0 gs its tl fr H nx) {Lg:Nat->Bool} (hdc:∀k,Lg k=true->∀p∈gv ops k,Lg p=true) {i:Nat} {o:Oper} (hil:i<gs.length) (ho:ops[l0+i]?=some o) (hi:Lg (l0+i)=false) (hp:∀p∈gv ops (l0+i),Lg p=true)
 {L:Nat->Bool} (hL:L=fun k=>Lg (l0+k)):
 ∃(g:gS) (it:It),gs[i]?=some g/\its[i]?=some it/\it.dst=o.dst/\lS P o=some g.op/\(∀x,o.dst=some x->x<n)/\(∃S,tH P (nx+i) (iQ L 0 its fr) (iJ L 0 its H) g it.r it.u S)/\
  (match o.guard with|none=>g.guard=none|some (j,want)=>∃d,(ops[j]?).bind (·.dst)=some d/\g.guard=some (d,want))/\
  (∀t,cc (fX (iQ L 0 its fr) it.dst it.r) t=cc (iQ (fun k=>L k||k==i) 0 its fr) t)/\(∀b,bw (dH (iJ L 0 its H) it.u) b=bw (iJ (fun k=>L k||k==i) 0 its H) b):=by
 obtain⟨g,hg,hl,hd,hdst,hgd⟩:=R.low i o hil ho
 obtain⟨it,t,e1,e2,e3,e4,e5,e6⟩:=R.PY i g hg
 have hA:=mR R.back
 have hi:L i=false:=by rw[hL];exact hi
 have hir:∀j,eB (iW ops) (l0+j) (l0+i)=true->L j=true:=fun j hj=>by rw[hL];exact(hA _ _ hj).2 Lg hdc hp
 have hri:∀j,L j=true->eB (iW ops) (l0+i) (l0+j)=false:=by
  intro j hj
  cases hr:eB (iW ops) (l0+i) (l0+j) with
  |false=>rfl
  |true=>
   rw[hL] at hj hi
   have:=(hA _ _ hr).2 Lg hdc (hdc _ hj)
   simp only at hi
   rw[hi] at this;cases this
 -- what a step that is out of order touches
 have other:∀j it',its[j]?=some it'->j≠i->(L j=true/\¬j<i\/L j=false/\j<i)->(∀d,it'.dst=some d->d∉g.ts)/\(∀d,it'.dst=some d->it.dst≠some d)/\∃t',tl[j]?=some t'/\t'.2=it'.u.map (·.1)/\zQ t t':=by
  intro j it' hj hne hor
  have hjl:j<gs.length:=by have:=(List.getElem?_eq_some_iff.1 hj).1;rw[R.il] at this;exact this
  obtain⟨it2,t',f1,f2,f3,f4,f5,f6⟩:=R.PY j gs[j] (List.getElem?_eq_getElem hjl)
  rw[hj] at f1;cases f1
  have b1:eB (iW ops) (l0+i) (l0+j)=false:=by
   rcases hor with⟨h1,h2⟩|⟨h1,h2⟩
   ·exact hri j h1
   ·cases hr:eB (iW ops) (l0+i) (l0+j) with
    |false=>rfl
    |true=>have:=(hA _ _ hr).1;omega
  have b2:eB (iW ops) (l0+j) (l0+i)=false:=by
   cases hr:eB (iW ops) (l0+j) (l0+i) with
   |false=>rfl
   |true=>
    have h3:=hir j hr
    rcases hor with⟨_,h2⟩|⟨h1,_⟩
    ·have:=(hA _ _ hr).1;omega
    ·rw[h1] at h3;cases h3
  obtain⟨a1,a2,a3⟩:=R.apart (Ne.symm hne) hg (List.getElem?_eq_getElem hjl) e1 hj e2 f2 b1 b2
  exact⟨a2,fun d hd hi'=>(a1 d hi').2 hd,t',f2,f5,a3⟩
 have hFts:∀t∈g.ts,cc (iQ (fun j=>decide (j<i)) 0 its fr) t=cc (iQ L 0 its fr) t:=by
  intro tt ht
  refine iu rfl fun j it' hj hd=> ?_
  simp only[Nat.zero_add]
  by_cases hji:j=i
  ·subst hji;simp[hi]
  ·cases hLj:L j with
   |true=>
    by_cases hlt:j<i
    ·simp[hlt]
    ·exact absurd ht ((other j it' hj hji (.inl ⟨hLj,hlt⟩)).1 tt hd)
   |false=>
    by_cases hlt:j<i
    ·exact absurd ht ((other j it' hj hji (.inr ⟨hLj,hlt⟩)).1 tt hd)
    ·simp[hlt]
 have hHids:∀b∈t.1,bw (iJ (fun j=>decide (j<i)) 0 its H) b=bw (iJ L 0 its H) b:=by
  intro b hb
  refine iw rfl fun j it' hj hd=> ?_
  obtain⟨q,hq⟩:=hd
  simp only[Nat.zero_add]
  by_cases hji:j=i
  ·subst hji;simp[hi]
  ·have key:∀h,False:=fun(h:L j=true/\¬j<i\/L j=false/\j<i)=>by
    obtain⟨_,_,t',_,h2,h3⟩:=other j it' hj hji h
    exact h3.2.1 b (by rw[h2,hq];rfl) hb
   cases hLj:L j with
   |true=>
    by_cases hlt:j<i
    ·simp[hlt]
    ·exact(key (.inl ⟨hLj,hlt⟩)).elim
   |false=>
    by_cases hlt:j<i
    ·exact(key (.inr ⟨hLj,hlt⟩)).elim
    ·simp[hlt]
 have hY:∃S,tH P (nx+i) (iQ L 0 its fr) (iJ L 0 its H) g it.r it.u S:=by
  refine⟨t.1, ?_⟩
  have hgF:∀A B A' B':Prop,(A->A')->(B->B')->dR (iQ (fun j=>decide (j<i)) 0 its fr) g.guard A B->dR (iQ L 0 its fr) g.guard A' B':=by
   intro A B A' B' ha hb h
   have h':=dR.mono h ha hb
   unfold dR at h' ⊢
   cases hgg:g.guard with
   |none=>rw[hgg] at h';exact h'
   |some p=>
    obtain⟨d,want⟩:=p
    rw[hgg] at h'
    simp only at h' ⊢
    rw[<-hFts d (by simp[gS.ts,hgg])]
    exact h'
  rcases e6 with h1|⟨h1,h2,h3,_⟩
  ·refine hgF _ _ _ _ (fun _=> ?_) (fun h=>h) e4
   exact yd (fun t ht=>hFts t (by simp only[gS.ts,List.mem_append];exact .inr ht)) h1 hHids
  ·exact hgF _ _ _ _ (fun h=>h.elim) (fun _=>⟨h2,h1⟩) h3
 refine⟨g,it,hg,e1,e3.trans hd,hl,hdst,hY,hgd,fun tt=> ?_,fun b=> ?_⟩
 ·by_cases htt:it.dst=some tt
  ·rw[htt,lp]
   refine(GM htt e1 (by simp) fun j it' hij hj hd'=> ?_).symm
   simp only[Nat.zero_add,Bool.or_eq_false_iff,beq_eq_false_iff_ne,ne_eq]
   refine⟨?_,by omega⟩
   cases hLj:L j with
   |false=>rfl
   |true=>exact absurd htt ((other j it' hj (by omega) (.inl ⟨hLj,by omega⟩)).2.1 tt hd')
  ·rw[qN htt]
   refine iu rfl fun j it' hj hd'=> ?_
   simp only[Nat.zero_add]
   by_cases hji:j=i
   ·subst hji;rw[e1] at hj;cases hj;exact absurd hd' htt
   ·simp[hji]
 ·by_cases hb:∃q,it.u=some (b,q)
  ·obtain⟨q,hq⟩:=hb
   rw[hq,lq]
   refine(GN hq e1 (by simp) fun j it' hij hj hd'=> ?_).symm
   simp only[Nat.zero_add,Bool.or_eq_false_iff,beq_eq_false_iff_ne,ne_eq]
   refine⟨?_,by omega⟩
   cases hLj:L j with
   |false=>rfl
   |true=>
    exfalso
    obtain⟨q',hq'⟩:=hd'
    obtain⟨_,_,t',_,h2,h3⟩:=other j it' hj (by omega) (.inl ⟨hLj,by omega⟩)
    exact h3.2.2 b ⟨by rw[e5,hq];rfl,by rw[h2,hq'];rfl⟩
  ·rw[qO fun k hk=>hb ⟨k,hk⟩]
   refine iw rfl fun j it' hj hd'=> ?_
   simp only[Nat.zero_add]
   by_cases hji:j=i
   ·subst hji;rw[e1] at hj;cases hj;exact absurd hd' hb
   ·simp[hji]
theorem KD {id:Nat} {fr:Fr} {H:Hp} {op:dM} {r:AV} {u:Option (Nat×e8)} {S:List Nat} (h:fO P id fr H op r u S):wX P id fr H op (fun r' H'=>r'=r/\H'=dH H u):=by
 by_cases hc:∃f as,op= .call f as
 ·obtain⟨f,as,rfl⟩:=hc
  simp only[fO,ny] at h
  simp only[wX]
  split at h
  ·rename_i g first caps he
   rw[he]
   simp only[wS]
   exact h.1 H fun _ _=>rfl
  ·exact h.elim
 ·have e:fO P id fr H op r u S=(cE id fr H op=some (r,u)/\S=eQ fr op):=by cases op<;>first|rfl|exact absurd ⟨_,_,rfl⟩ hc
  rw[e] at h
  have e2:wX P id fr H op (fun r' H'=>r'=r/\H'=dH H u)=mD (cE id fr H op) fun p=>p.1=r/\dH H p.2=dH H u:=by cases op<;>first|rfl|exact absurd ⟨_,_,rfl⟩ hc
  rw[e2,h.1]
  exact⟨rfl,rfl⟩
def yf (w0:World) (M0:Nat->Prop) (c0:Cx) (lo n:Nat) (fr:Fr) (H:Hp) (nx:Nat) (L:Nat->Bool) (a:Act) (w:World):Prop:=
 a.tmps.size=n/\a.defers=[]/\∃ρ U,(∀b,U b->b<nx\/∃j,L j=true/\b=nx+j)/\dY w0 ⟨ρ,bw H,U,w,M0⟩/\FR ⟨ρ,bw H,U,w,M0⟩ fr a.tmps/\l5 c0 lo ⟨ρ,bw H,U,w,M0⟩
theorem iX {listed:Array Bool} {i k:Nat} (hi:i<listed.size):fG (listed.setIfInBounds i true) k=(fG listed k||k==i):=by
 unfold fG
 by_cases h:k=i
 ·subst h;simp[Array.getD,hi]
 ·have:(k==i)=false:=by simpa using h
  simp[this,Ne.symm h]
def left (ops:Array Oper) (listed:Array Bool):Nat:=((List.range ops.size).filter fun k=> !fG listed k).length
theorem sN {listed:Array Bool} {i:Nat} (hs:listed.size=ops.size) (hlt:i<ops.size) (hl:fG listed i=false):left ops (listed.setIfInBounds i true)+1=left ops listed:=by
 unfold left
 have hmem:i∈(List.range ops.size).filter fun k=> !fG listed k:=by simp[hlt,hl]
 have e:((List.range ops.size).filter fun k=> !fG (listed.setIfInBounds i true) k)=((List.range ops.size).filter fun k=> !fG listed k).filter (fun k=>k != i):=by
  rw[List.filter_filter]
  refine List.filter_congr fun k _=> ?_
  rw[iX (by omega)]
  cases fG listed k<;>simp[bne]
 rw[e]
 have hnd:((List.range ops.size).filter fun k=> !fG listed k).Nodup:=List.Pairwise.filter _ List.nodup_range
 have:∀(l:List Nat),l.Nodup->i∈l->(l.filter fun k=>k != i).length+1=l.length:=by
  intro l
  induction l with
  |nil=>intro _ h;cases h
  |cons x l ihl=>
   intro hnd hm
   rw[List.nodup_cons] at hnd
   by_cases hx:x=i
   ·subst hx
    have:(l.filter fun k=>k != x)=l:=by
     rw[List.filter_eq_self]
     intro y hy
     simp only[bne_iff_ne,ne_eq]
     rintro rfl
     exact hnd.1 hy
    simp[this]
   ·have hm':i∈l:=by
     rcases List.mem_cons.1 hm with h|h
     ·exact absurd h.symm hx
     ·exact h
    have:=ihl hnd.2 hm'
    simp[hx]
    exact this
 exact this _ hnd hmem
theorem fR {listed:Array Bool} {i:Nat} (hs:listed.size=ops.size):i∈Region.ready .any ops listed↔fG listed i=false/\i<ops.size/\∀p∈gv ops i,fG listed p=true:=by
 rw[mem_ready]
 constructor
 ·rintro⟨h1,o,ho,h2⟩
  have hlt:=(Array.getElem?_eq_some_iff.1 ho).1
  refine⟨?_,hlt,fun p hp=> ?_⟩
  ·unfold fG;have:i<listed.size:=by omega
   simpa[Array.getD,this] using h1
  ·simp only[gv,ho,List.mem_filterMap] at hp
   obtain⟨e,he,hp⟩:=hp
   split at hp
   ·rename_i hb;simp at hp;subst hp;exact h2 e (by simpa using he) hb
   ·simp at hp
 ·rintro⟨h1,hlt,h2⟩
  refine⟨?_,ops[i],Array.getElem?_eq_getElem hlt,fun e he hb=> ?_⟩
  ·unfold fG at h1;have:i<listed.size:=by omega
   simpa[Array.getD,this] using h1
  ·refine h2 e.on ?_
   simp only[gv,Array.getElem?_eq_getElem hlt,List.mem_filterMap]
   exact⟨e,by simpa using he,by simp[hb]⟩
theorem N2.any (R:N2 P n ops l0 gs its tl fr H nx) {Q:Exit->Act->World->Prop} (hcut:l0+gs.length=ops.size\/cutAt (iW ops) ops.size (l0+gs.length)=true) (hQ:∀fuel listed a w,listed.size=ops.size->left ops listed=fuel->(∀k,fG listed k=decide (k<l0+gs.length))->yf w0 M0 c0 lo n (iQ (fun _=>true) 0 its fr) (iJ (fun _=>true) 0 its H) nx (fun k=>decide (k<gs.length)) a w->wpAny P .any ops Q fuel listed a w):
 ∀(fuel:Nat) (listed:Array Bool) (a:Act) (w:World),listed.size=ops.size->left ops listed=fuel->(∀k,fG listed k=true->∀p∈gv ops k,fG listed p=true)->(∀k,k<l0->fG listed k=true)->(∀k,l0+gs.length<=k->fG listed k=false)->
  yf w0 M0 c0 lo n (iQ (fun k=>fG listed (l0+k)) 0 its fr) (iJ (fun k=>fG listed (l0+k)) 0 its H) nx (fun k=>fG listed (l0+k)) a w->wpAny P .any ops Q fuel listed a w:=by
 have hA:=mR R.back
 have done:∀{listed:Array Bool} {a:Act} {w:World},listed.size=ops.size->(∀k,k<l0+gs.length->fG listed k=true)->(∀k,l0+gs.length<=k->fG listed k=false)->yf w0 M0 c0 lo n (iQ (fun k=>fG listed (l0+k)) 0 its fr) (iJ (fun k=>fG listed (l0+k)) 0 its H) nx (fun k=>fG listed (l0+k)) a w->wpAny P .any ops Q (left ops listed) listed a w:=by
  intro listed a w hs hall hno hh
  have e1:∀t,cc (iQ (fun k=>fG listed (l0+k)) 0 its fr) t=cc (iQ (fun _=>true) 0 its fr) t:=fun t=>iu rfl fun j it hj _=>by
   have h1:=(List.getElem?_eq_some_iff.1 hj).1
   have h2:=R.il
   simpa using hall (l0+j) (by omega)
  have e2:bw (iJ (fun k=>fG listed (l0+k)) 0 its H)=bw (iJ (fun _=>true) 0 its H):=by
   funext b
   exact iw rfl fun j it hj _=>by
    have h1:=(List.getElem?_eq_some_iff.1 hj).1
    have h2:=R.il
    simpa using hall (l0+j) (by omega)
  obtain⟨h1,h2,ρ,U,hU,hS,hF,hT⟩:=hh
  refine hQ _ listed a w hs rfl (fun k=> ?_) ⟨h1,h2,ρ,U,fun b hb=> ?_,by rw[<-e2];exact hS,fun t=>by rw[<-e2,<-e1];exact hF t,by rw[<-e2];exact hT⟩
  ·by_cases hk:k<l0+gs.length
   ·simp[hall k hk,hk]
   ·rw[hno k (by omega)];simp[hk]
  ·rcases hU b hb with h|⟨j,hj,rfl⟩
   ·exact .inl h
   ·refine .inr ⟨j, ?_,rfl⟩
    by_cases hk:j<gs.length
    ·simpa using hk
    ·have hj:fG listed (l0+j)=true:=hj
     rw[hno (l0+j) (by omega)] at hj;cases hj
 intro fuel
 induction fuel with
 |zero=>
  intro listed a w hs hf hdc hlow hno hh
  have hall:∀k,k<l0+gs.length->fG listed k=true:=by
   intro k hk
   have hnil:=List.eq_nil_of_length_eq_zero hf
   cases hl:fG listed k with
   |true=>rfl
   |false=>
    have:k∈(List.range ops.size).filter fun k=> !fG listed k:=by have:=R.len;simp[hl];omega
    rw[hnil] at this;cases this
  have:=done hs hall hno hh
  rw[hf] at this
  exact this
 |succ fuel ih=>
  intro listed a w hs hf hdc hlow hno hh
  by_cases hall:∀k,k<l0+gs.length->fG listed k=true
  ·have:=done hs hall hno hh
   rw[hf] at this
   exact this
  -- some of the stretch is still to come, and only of it
  have hin:∀i,i∈Region.ready .any ops listed->l0<=i/\i<l0+gs.length:=by
   intro i hi
   obtain⟨hl,hlt,hp⟩:=(fR hs).1 hi
   refine⟨?_, ?_⟩
   ·rcases Nat.lt_or_ge i l0 with h|h
    ·rw[hlow i h] at hl;cases hl
    ·exact h
   ·rcases Nat.lt_or_ge i (l0+gs.length) with h|h
    ·exact h
    ·exfalso
     rcases hcut with hc|hc
     ·omega
     ·refine hall fun k hk=> ?_
      exact(hA _ _ (nP hc hk h hlt)).2 (fG listed) hdc hp
  refine⟨fun hnil=> ?_,fun i hi=> ?_⟩
  ·exfalso
   refine hall fun k hk=> ?_
   induction k using Nat.strongRecOn with
   |_ k ihk=>
    cases hl:fG listed k with
    |true=>rfl
    |false=>
     have hlen:=R.len
     have:k∈Region.ready .any ops listed:=(fR hs).2 ⟨hl,by omega,fun p hp=>ihk p (R.back k p hp) (by have:=R.back k p hp;omega)⟩
     rw[hnil] at this;cases this
  ·obtain⟨hl,hlt,hp⟩:=(fR hs).1 hi
   obtain⟨hge,hlt2⟩:=hin i hi
   obtain⟨i',rfl⟩:∃i',i=l0+i':=⟨i - l0,by omega⟩
   have ho:ops[l0+i']?=some ops[l0+i']:=Array.getElem?_eq_getElem hlt
   obtain⟨g,it,hg,hit,hd,hlo,hdst,⟨S,hY⟩,hgd,hF',hH'⟩:=R.step (Lg:=fG listed) hdc (by omega) ho hl hp rfl
   obtain⟨hn,hde,ρ,U,hU,hS,hF,hT⟩:=hh
   have hid:¬U (nx+i'):=fun h=>by
    rcases hU _ h with h|⟨j,hj,he⟩
    ·omega
    ·have:j=i':=by omega
     subst this
     have hj:fG listed (l0+j)=true:=hj
     rw[hl] at hj;cases hj
   have hset:∀k,fG (listed.setIfInBounds (l0+i') true) (l0+k)=(fG listed (l0+k)||k==i'):=by
    intro k
    rw[iX (by omega)]
    congr 1
    by_cases hk:k=i'
    ·subst hk;simp
    ·have h1:(k==i')=false:=by simpa using hk
     have h2:(l0+k==l0+i')=false:=by simp;omega
     rw[h1,h2]
   have hH'':bw (dH (iJ (fun k=>fG listed (l0+k)) 0 its H) it.u)=bw (iJ (fun k=>fG (listed.setIfInBounds (l0+i') true) (l0+k)) 0 its H):=by
    funext b
    rw[hH' b]
    exact iw rfl fun j _ _ _=>by rw[hset]
   have hF'':∀t,cc (fX (iQ (fun k=>fG listed (l0+k)) 0 its fr) ops[l0+i'].dst it.r) t=cc (iQ (fun k=>fG (listed.setIfInBounds (l0+i') true) (l0+k)) 0 its fr) t:=by
    intro t
    rw[<-hd,hF' t]
    exact iu rfl fun j _ _ _=>by rw[hset]
   have nextOne:∀{v:Value} {ρ':Nat->Option (Nat×Nat×Nat)} {w':World},dY w0 (iP ⟨ρ,bw (iJ (fun k=>fG listed (l0+k)) 0 its H),U,w,M0⟩ (nx+i') ρ' (bw (dH (iJ (fun k=>fG listed (l0+k)) 0 its H) it.u)) w')->Cx.le ⟨ρ,bw (iJ (fun k=>fG listed (l0+k)) 0 its H),U,w,M0⟩ (iP ⟨ρ,bw (iJ (fun k=>fG listed (l0+k)) 0 its H),U,w,M0⟩ (nx+i') ρ' (bw (dH (iJ (fun k=>fG listed (l0+k)) 0 its H) it.u)) w')->
    VR (iP ⟨ρ,bw (iJ (fun k=>fG listed (l0+k)) 0 its H),U,w,M0⟩ (nx+i') ρ' (bw (dH (iJ (fun k=>fG listed (l0+k)) 0 its H) it.u)) w') it.r v->wpAny P .any ops Q fuel (listed.setIfInBounds (l0+i') true) (a.put ops[l0+i'].dst v) w':=by
    intro v ρ' w' s1 s2 s3
    refine ih _ _ _ (by simpa using hs) ?_ (fun k hk p hp'=> ?_) (fun k hk=> ?_) (fun k hk=> ?_) ?_
    ·have:=sN hs hlt hl;omega
    ·rw[iX (by omega)] at hk ⊢
     simp only[Bool.or_eq_true,beq_iff_eq] at hk ⊢
     rcases hk with hk|rfl
     ·exact .inl (hdc k hk p hp')
     ·exact .inl (hp p hp')
    ·rw[iX (by omega),hlow k hk];rfl
    ·rw[iX (by omega),hno k hk]
     simp;omega
    ·obtain⟨q1,q2⟩:=cy a ops[l0+i'].dst v
     have hfr:=hF.put s2 s3 (d:=ops[l0+i'].dst) (fun x hx=>by rw[hn];exact hdst x hx)
     refine⟨q1.trans hn,q2.trans hde,ρ',fun x=>U x\/x=nx+i',fun b hb=> ?_,by rw[<-hH''];exact s1,fun t=> ?_,by rw[<-hH''];exact hT.to s2⟩
     ·rcases hb with hb|rfl
      ·rcases hU b hb with h|⟨j,hj,rfl⟩
       ·exact .inl h
       ·exact .inr ⟨j,(hset j).trans (by rw[show fG listed (l0+j)=true from hj];rfl),rfl⟩
      ·exact .inr ⟨i',(hset i').trans (by simp),rfl⟩
     ·rw[<-hH'',<-hF'' t]
      exact hfr t
   unfold wpOp
   rw[ho]
   simp only
   have hgc:=lr (c:=⟨ρ,bw (iJ (fun k=>fG listed (l0+k)) 0 its H),U,w,M0⟩) hF hgd hY
   rcases hgc with⟨hw,hy⟩|⟨hw,hr,hu⟩
   ·rw[if_pos hw]
    refine .inl (MT (c:=⟨ρ,bw (iJ (fun k=>fG listed (l0+k)) 0 its H),U,w,M0⟩) hlo hS rfl hF hid (KD hy) ?_)
    rintro v r' H'' ρ' w' ⟨rfl,rfl⟩ s1 s2 s3
    exact nextOne s1 s2 s3
   ·rw[if_neg (by simp[hw])]
    obtain⟨s1,s2⟩:=hS.used (U:=fun x=>U x\/x=nx+i') fun _ h=> .inl h
    refine nextOne (v:=undef) (ρ':=ρ) (w':=w) ?_ ?_ ?_
    ·rw[hu];exact s1
    ·rw[hu];exact s2
    ·rw[hr,VR]
def gy (P:Program):Nat->List tG->Fr->Hp->(Fr->Hp->Nat->Prop)->Prop
 |nx,[],fr,H,K=>K fr H nx
 |nx,s::rest,fr,H,K=>match s.ops with
  |[g]=>dR fr g.guard (dw P nx fr H g.op fun r H' nx'=>gy P nx' rest (fX fr g.dst r) H' K) (gy P (nx+1) rest (fX fr g.dst (.sc undef)) H K)
  |gs=>iV P nx gs fr H [] fun fr' H' tr=>iO tr s.ps/\gy P (nx+gs.length) rest fr' H' K
theorem mH (h1:lR P n ops ops.toList=some gs) (hb:∀k,∀p∈gv ops k,p<k) {K:Fr->Hp->Nat->Prop} {Q:Exit->Act->World->Prop}
 (hQ:∀fr H nx a w,K fr H nx->Holds w0 M0 c0 lo n fr H nx a w->Q .normal a w):∀(cs:List Nat) (l0:Nat) (segs:List tG),sg (iW ops) ops.size gs l0 cs=some segs->
 ∀(fuel nx:Nat) (fr:Fr) (H:Hp) (listed:Array Bool) (a:Act) (w:World),gy P nx segs fr H K->listed.size=ops.size->left ops listed=fuel->(∀k,fG listed k=decide (k<l0))->Holds w0 M0 c0 lo n fr H nx a w->wpAny P .any ops Q fuel listed a w
 |[],l0,segs,h,fuel,nx,fr,H,listed,a,w,hr,hs,hf,hl,hh=>by
  simp only[sg,Option.ite_none_right_eq_some,Option.some.injEq] at h
  obtain⟨rfl,rfl⟩:=h
  have h0:left ops listed=0:=by
   unfold left
   rw[List.length_eq_zero_iff,List.filter_eq_nil_iff]
   intro k hk
   simp at hk
   simp[hl,hk]
  rw[h0] at hf
  subst hf
  refine⟨?_,hQ _ _ _ _ _ hr hh⟩
  cases hrd:Region.ready .any ops listed with
  |nil=>rfl
  |cons i l=>
   have:i∈Region.ready .any ops listed:=by rw[hrd];simp
   obtain⟨h1,h2,_⟩:=(fR hs).1 this
   rw[hl] at h1
   simp at h1;omega
 |c::cs,l0,segs,h,fuel,nx,fr,H,listed,a,w,hr,hs,hf,hl,hh=>by
  obtain⟨g1,g2⟩:=pq h1
  simp only[Array.length_toList] at g1
  simp only[sg,Option.ite_none_right_eq_some,Option.map_eq_some_iff,Bool.and_eq_true,decide_eq_true_eq,List.all_eq_true,List.mem_filter,Bool.not_eq_true',and_imp,Prod.forall] at h
  obtain⟨⟨⟨⟨hc1,hc2⟩,hcut⟩,hfree⟩,segs',hseg,rfl⟩:=h
  have hwl:((gs.drop l0).take (c - l0)).length=c - l0:=by simp;omega
  generalize hws:(gs.drop l0).take (c - l0)=ws at hr hfree hwl
  have hlow:∀(k:Nat) (o:Oper),k<ws.length->ops[l0+k]?=some o->∃g:gS,ws[k]?=some g/\lS P o=some g.op/\g.dst=o.dst/\(∀x,o.dst=some x->x<n)/\
   (match o.guard with|none=>g.guard=none|some (j,want)=>∃d,(ops[j]?).bind (·.dst)=some d/\g.guard=some (d,want)):=by
   intro k o hk ho
   obtain⟨g,q1,q2⟩:=g2 (l0+k) o (by simpa using ho)
   refine⟨g, ?_,q2⟩
   rw[<-hws,List.getElem?_take,if_pos (by omega),List.getElem?_drop]
   exact q1
  have hnext:∀(k:Nat),decide (k<l0+ws.length)=decide (k<c):=fun k=>by rw[hwl,show l0+(c - l0)=c by omega]
  have hA:=mR hb
  by_cases hsing:∃g,ws=[g]
  · -- one operation by itself
   obtain⟨g,hgs⟩:=hsing
   simp only[gy,hgs] at hr
   have hw1:ws.length=1:=by rw[hgs];rfl
   have hlt:l0<ops.size:=by omega
   have ho:ops[l0]?=some ops[l0]:=Array.getElem?_eq_getElem hlt
   obtain⟨g',q1,q2,q3,q4,q5⟩:=hlow 0 _ (by omega) ho
   rw[hgs] at q1
   simp only[List.getElem?_cons_zero,Option.some.injEq] at q1
   subst q1
   have hl0:fG listed l0=false:=by rw[hl];simp
   have hrd:∀i,i∈Region.ready .any ops listed->i=l0:=by
    intro i hi
    obtain⟨h1,h2,h3⟩:=(fR hs).1 hi
    rw[hl] at h1
    simp at h1
    rcases Nat.lt_or_ge i c with hlt|hge
    ·omega
    ·exfalso
     have:=(hA _ _ (nP hcut (show l0<c by omega) hge h2)).2 (fG listed) (fun k hk p hp=>by
      rw[hl] at hk ⊢
      have:=hb k p hp
      simp at hk ⊢;omega) h3
     rw[hl0] at this;cases this
   have hrdy:l0∈Region.ready .any ops listed:=(fR hs).2 ⟨hl0,hlt,fun p hp=>by rw[hl];have:=hb l0 p hp;simpa using this⟩
   obtain⟨hn,hde,ρ,U,hU,hS,hF,hT⟩:=hh
   have hls:=sN hs hlt hl0
   cases fuel with
   |zero=>omega
   |succ fuel=>
    refine⟨fun hnil=>(by rw[hnil] at hrdy;cases hrdy),fun i hi=> ?_⟩
    have:=hrd i hi
    subst this
    have hset:∀k,fG (listed.setIfInBounds i true) k=decide (k<c):=by
     intro k
     rw[iX (by omega),hl]
     by_cases hk:k=i
     ·subst hk;simp;omega
     ·have:(k==i)=false:=by simpa using hk
      rw[this,Bool.or_false]
      congr 1
      apply propext
      omega
    unfold wpOp
    rw[ho]
    simp only
    have hgc:=lr (c:=⟨ρ,bw H,U,w,M0⟩) hF q5 hr
    rcases hgc with⟨hw,hy⟩|⟨hw,hy⟩
    ·rw[if_pos hw]
     refine .inl (sq (c:=⟨ρ,bw H,U,w,M0⟩) q2 hS rfl hF hU hy ?_)
     intro v r' H' nx' ρ' U' w' hR s0 s1 s2 s3
     refine mH h1 hb hQ cs c segs' hseg fuel nx' _ _ _ _ _ hR (by simpa using hs) (by omega) hset ?_
     rw[q3]
     exact Holds.next (c:=⟨ρ,bw H,U,w,M0⟩) hn hde s0 hF hT s1 s2 s3 q4
    ·rw[if_neg (by simp[hw])]
     refine mH h1 hb hQ cs c segs' hseg fuel (nx+1) _ _ _ _ _ hy (by simpa using hs) (by omega) hset ?_
     rw[q3]
     exact Holds.next (c:=⟨ρ,bw H,U,w,M0⟩) hn hde (fun b hb=>by have:=hU b hb;omega) hF hT hS (Cx.le.refl _) (by rw[VR]) q4
  · -- a stretch
   have hr:iV P nx ws fr H [] fun fr' H' tr=>iO tr ((List.filter (fun p=>((ws.getD p.1 default).op.wr&&(ws.getD p.2 default).op.rd)||((ws.getD p.1 default).op.rd&&(ws.getD p.2 default).op.wr)) ((mj ws.length).filter fun p=> !eB (iW ops) (l0+p.1) (l0+p.2))))/\gy P (nx+ws.length) segs' fr' H' K:=by
    simp only[gy] at hr
    split at hr
    ·exact absurd ⟨_,rfl⟩ hsing
    ·exact hr
   obtain⟨its,tl,l1,l2,⟨hfar,hK⟩,hall⟩:=yK hr
   simp only[List.nil_append] at hfar
   have R:N2 P n ops l0 ws its tl fr H nx:=by
    refine⟨by omega,hlow,l1,hall,hb,fun i j hij hj hbw=>hfree i j (j8.2 ⟨hij,by omega⟩) hbw,fun i j hij hj hbw hw=>hfar (i,j) ?_⟩
    simp only[List.mem_filter,Bool.not_eq_true']
    refine⟨⟨j8.2 ⟨hij,by omega⟩,hbw⟩,hw⟩
   obtain⟨hn,hde,ρ,U,hU,hS,hF,hT⟩:=hh
   refine R.any (w0:=w0) (M0:=M0) (c0:=c0) (lo:=lo) (.inr (by rw[hwl,show l0+(c - l0)=c by omega];exact hcut)) (fun fuel' listed' a' w' hs' hf' hl' hh'=> ?_) fuel listed a w hs hf (fun k hk p hp=> ?_) (fun k hk=>by rw[hl];simpa using hk) (fun k hk=>by rw[hl];simp;omega) ?_
   ·obtain⟨p1,p2,ρ',U',hU',hS',hF',hT'⟩:=hh'
    refine mH h1 hb hQ cs c segs' hseg fuel' (nx+ws.length) _ _ listed' a' w' hK hs' hf' (fun k=>by rw[hl',hnext]) ⟨p1,p2,ρ',U',fun b hb=> ?_,hS',hF',hT'⟩
    rcases hU' b hb with h|⟨j,hj,rfl⟩
    ·omega
    ·simp at hj;omega
   ·rw[hl] at hk ⊢
    have:=hb k p hp
    simp at hk ⊢;omega
   ·have e0:(fun k=>fG listed (l0+k))=fun _=>false:=by
     funext k
     rw[hl];simp
    rw[e0,rD,rF]
    exact⟨hn,hde,ρ,U,fun b hb=> .inl (hU b hb),hS,hF,hT⟩
theorem WL.drawn {segs:List tG} {Q:QT} (h:gy P nx segs fr H (fun fr' H' nx'=>Q .normal fr' H' nx')):WL P n lo (.drawn segs) fr H nx Q:=by
 intro code hc w0 M0 c0 a w hh
 have:∃id ops gs,code= .region id ops true/\lR P n ops ops.toList=some gs/\re ops gs=some segs/\P.follows .mixedOrders=true:=by
  cases code<;>simp only[cq] at hc
  case region id ops draw=>
   split at hc
   ·rename_i gs' h1
    cases draw with
    |false=>simp at hc
    |true=>
     simp only[if_true,Option.ite_none_right_eq_some,Option.map_eq_some_iff,LC.drawn.injEq] at hc
     obtain⟨hm,ps',h2,rfl⟩:=hc
     exact⟨id,ops,gs',rfl,h1,h2,hm⟩
   ·simp at hc
  all_goals (exfalso;repeat' (split at hc))<;>simp at hc
 obtain⟨id,ops,gs,rfl,h1,h2,hm⟩:=this
 unfold re at h2
 simp only[Option.ite_none_right_eq_some,List.all_eq_true,List.mem_range,decide_eq_true_eq] at h2
 obtain⟨hb,hseg⟩:=h2
 have hb':∀k,∀p∈gv ops k,p<k:=by
  intro k p hp
  by_cases hk:k<ops.size
  ·exact hb k hk p hp
  ·simp[gv,Array.getElem?_eq_none (Nat.le_of_not_lt hk)] at hp
 refine wp_region_any hm ?_
 obtain⟨hn,hd,ρ,U,hU,hS,hF,hT⟩:=hh
 have hbl:Below w.heap.size w { w with drawn:=w.drawn+1 }:=⟨rfl,rfl,rfl,Nat.le_refl _,fun _ _=>rfl⟩
 obtain⟨s1,s2⟩:=hS.world (w':={ w with drawn:=w.drawn+1 }) hbl
 have e0:∀k,fG (Array.replicate ops.size false) k=false:=by
  intro k
  unfold fG
  by_cases hk:k<ops.size<;>simp[Array.getD,hk]
 refine mH h1 hb' (K:=fun fr H nx=>Q .normal fr H nx) (w0:=w0) (M0:=M0) (c0:=c0) (lo:=lo) (fun fr' H' nx' a' w' hK hh'=>⟨.normal,fr',H',nx',rfl,hK,hh'⟩) _ 0 segs hseg ops.size nx fr H _ a _ h (by simp) ?_ (fun k=>by rw[e0];simp) ?_
 ·unfold left
  rw[List.filter_eq_self.2 (by simp[e0])];simp
 ·exact⟨hn,hd,ρ,U,hU,s1,fun t=>VR.cT s2 (hF t),hT.to s2⟩
end
end
end Go.cp
