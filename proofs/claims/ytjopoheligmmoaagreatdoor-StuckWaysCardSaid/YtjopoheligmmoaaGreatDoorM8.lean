import Derived.Test.YtjopoheligmmoaaGreatDoorM7
namespace Go.cw
open Go.RowKit
def iO:AV->List Nat
 | .sl b _=>[b]
 | .pt b _ _ _=>[b]
 | .sv b _ _ _=>[b]
 | .mp b=>[b]
 |_=>[]
def eo (fr:Fr) (op:df):List Nat:=if op.rd then op.eT.flatMap (fun x=>iO (ev fr x)) else[]
def pk (P:Program) (id:Nat) (f:AV) (args:List AV) (H:Hp) (r:AV) (u:Option (Nat×fH)) (S:List Nat):Prop:=
 match f with
 | .fn (.func g) first caps=>(∀H1,(∀b∈S,bt H1 b=bt H b)->lO P g (first++args++caps) H1 id (fun r' H'=>r'=r/\H'=dS H1 u))/\(∀b q,u=some (b,q)->b=id)
 |_=>False
theorem Pure.SS {P:Program} {id:Nat} {g:FuncId} {first args caps:List AV} {H:Hp} {r:AV} (hf:c8 0 (first++args++caps)) (h:Pure P g (first++args++caps) (fun r'=>r'=r)):pk P id (.fn (.func g) first caps) args H r none []:=
 ⟨fun H1 _=>h.VX hf fun _ hr=>⟨hr,rfl⟩,fun _ _ h=>by cases h⟩
def gB (P:Program) (id:Nat) (fr:Fr) (H:Hp) (op:df) (r:AV) (u:Option (Nat×fH)) (S:List Nat):Prop:=
 match op with
 | .call f args=>pk P id (ev fr f) (vl fr args) H r u S
 |op=>cM id fr H op=some (r,u)/\S=eo fr op
def vg (P:Program) (id:Nat) (fr:Fr) (H:Hp) (g:iY) (r:AV) (u:Option (Nat×fH)) (S:List Nat):Prop:=
 dj fr g.guard (gB P id fr H g.op r u S) (r= .sc undef/\u=none)
def mh (P:Program) (id:Nat) (fr:Fr) (H:Hp) (op:df) (K:AV->Option (Nat×fH)->List Nat->Prop):Prop:=
 match op with
 | .call f args=>∃r u S,pk P id (ev fr f) (vl fr args) H r u S/\K r u S
 |op=>ng (cM id fr H op) fun p=>K p.1 p.2 (eo fr op)
abbrev Tr:=List (List Nat×Option Nat)
def jc (P:Program):Nat->List iY->Fr->Hp->Tr->(Fr->Hp->Tr->Prop)->Prop
 |_,[],fr,H,tr,K=>K fr H tr
 |id,g::rest,fr,H,tr,K=>dj fr g.guard (mh P id fr H g.op fun r u S=>jc P (id+1) rest (gR fr g.dst r) (dS H u) (tr++[(S,u.map (·.1))]) K)
  (jc P (id+1) rest (gR fr g.dst (.sc undef)) H (tr++[([],none)]) K)
theorem dj.mono {fr:Fr} {g:Option (Nat×Bool)} {A A' B B':Prop} (h:dj fr g A B) (ha:A->A') (hb:B->B'):dj fr g A' B':=by
 unfold dj at *
 split
 ·simp only at h;exact ha h
 ·simp only at h
  split at h
  ·split at h
   ·rename_i ht;rw[if_pos ht];exact ha h
   ·rename_i ht;rw[if_neg ht];exact hb h
  ·exact hb h
  ·exact h.elim
theorem mh.mono {P:Program} {id:Nat} {fr:Fr} {H:Hp} {op:df} {K K':AV->Option (Nat×fH)->List Nat->Prop} (h:mh P id fr H op K) (hk:∀r u S,K r u S->K' r u S):mh P id fr H op K':=by
 cases op
 case call f args=>obtain⟨r,u,S,h1,h2⟩:=h;exact⟨r,u,S,h1,hk _ _ _ h2⟩
 all_goals
  simp only[mh] at h ⊢
  generalize cM id fr H _=x at h ⊢
  cases x with
  |none=>exact h
  |some p=>exact hk _ _ _ h
theorem mh.U5 {P:Program} {id:Nat} {fr:Fr} {H:Hp} {op:df} {K:AV->Option (Nat×fH)->List Nat->Prop} (h:mh P id fr H op K):∃r u S,gB P id fr H op r u S/\K r u S:=by
 cases op
 case call f args=>obtain⟨r,u,S,h1,h2⟩:=h;exact⟨r,u,S,h1,h2⟩
 all_goals
  simp only[mh,gB] at h ⊢
  generalize cM id fr H _=x at h ⊢
  cases x with
  |none=>exact h.elim
  |some p=>exact⟨p.1,p.2,_,⟨rfl,rfl⟩,h⟩
structure It where
 dst:Option Nat
 r:AV
 u:Option (Nat×fH)
def j8 (L:Nat->Bool):Nat->List It->Fr->Fr
 |_,[],fr=>fr
 |k,it::its,fr=>j8 L (k+1) its (if L k then gR fr it.dst it.r else fr)
def j1 (L:Nat->Bool):Nat->List It->Hp->Hp
 |_,[],H=>H
 |k,it::its,H=>j1 L (k+1) its (if L k then dS H it.u else H)
theorem sL {fr:Fr} {d:Option Nat} {r:AV} {t:Nat} (h:d≠some t):cq (gR fr d r) t=cq fr t:=by
 cases d with
 |none=>rfl
 |some d=>simp only[gR,cq];rw[if_neg (fun e=>h (by rw[e]))]
theorem nS {fr:Fr} {r:AV} {t:Nat}:cq (gR fr (some t) r) t=r:=by simp[gR,cq]
theorem sM {H:Hp} {u:Option (Nat×fH)} {b:Nat} (h:∀k,u≠some (b,k)):bt (dS H u) b=bt H b:=by
 cases u with
 |none=>rfl
 |some p=>obtain⟨b',k⟩:=p;simp only[dS,bt];rw[if_neg (fun e=>h k (by rw[e]))]
theorem nT {H:Hp} {k:fH} {b:Nat}:bt (dS H (some (b,k))) b=some k:=by simp[dS,bt]
theorem jo {L L':Nat->Bool} {t:Nat}:∀{its:List It} {k:Nat} {fr fr':Fr},cq fr t=cq fr' t->(∀j it,its[j]?=some it->it.dst=some t->L (k+j)=L' (k+j))->cq (j8 L k its fr) t=cq (j8 L' k its fr') t
 |[],_,_,_,h,_=>h
 |it::its,k,fr,fr',h,hj=>by
  simp only[j8]
  refine jo ?_ fun j it' hi hd=>by have:=hj (j+1) it' (by simpa using hi) hd;simpa[Nat.add_assoc,Nat.add_comm 1 j] using this
  by_cases hd:it.dst=some t
  ·have:=hj 0 it rfl hd
   simp only[Nat.add_zero] at this
   rw[this,hd]
   cases L' k
   ·simpa using h
   ·simp only[if_true,nS]
  ·cases L k<;>cases L' k<;>simp[sL hd,h]
theorem jq {L L':Nat->Bool} {b:Nat}:∀{its:List It} {k:Nat} {H H':Hp},bt H b=bt H' b->(∀(j:Nat) (it:It),its[j]?=some it->(∃q,it.u=some (b,q))->L (k+j)=L' (k+j))->bt (j1 L k its H) b=bt (j1 L' k its H') b
 |[],_,_,_,h,_=>h
 |it::its,k,H,H',h,hj=>by
  simp only[j1]
  refine jq ?_ fun j it' hi hd=>by have:=hj (j+1) it' (by simpa using hi) hd;simpa[Nat.add_assoc,Nat.add_comm 1 j] using this
  by_cases hd:∃q,it.u=some (b,q)
  ·have:=hj 0 it rfl hd
   simp only[Nat.add_zero] at this
   obtain⟨q,hq⟩:=hd
   rw[this,hq]
   cases L' k
   ·simpa using h
   ·simp only[if_true,nT]
  ·have hd':∀q,it.u≠some (b,q):=fun q hq=>hd ⟨q,hq⟩
   cases L k<;>cases L' k<;>simp[sM hd',h]
theorem K5 {L:Nat->Bool} {t i:Nat} {it:It} (hd:it.dst=some t):∀{its:List It} {k:Nat} {fr:Fr},its[i]?=some it->L (k+i)=true->(∀j it',i<j->its[j]?=some it'->it'.dst=some t->L (k+j)=false)->cq (j8 L k its fr) t=it.r:=by
 induction i with
 |zero=>
  intro its k fr hi hL hj
  cases its with
  |nil=>simp at hi
  |cons x its=>
   simp at hi
   subst hi
   simp only[j8]
   have hL':L k=true:=hL
   rw[hL',if_pos rfl,hd]
   rw[jo (L':=fun _=>false) (fr':=gR fr (some t) x.r) rfl fun j it' hi' hd'=> ?_]
   ·have:∀(its:List It) (k:Nat) (fr:Fr),j8 (fun _=>false) k its fr=fr:=by
     intro its
     induction its with
     |nil=>intros;rfl
     |cons y ys ih=>intro k fr;simp only[j8];exact ih _ _
    rw[this,nS]
   ·have:=hj (j+1) it' (by omega) (by simpa using hi') hd'
    simpa[Nat.add_assoc,Nat.add_comm 1 j] using this
 |succ i ih=>
  intro its k fr hi hL hj
  cases its with
  |nil=>simp at hi
  |cons x its=>
   simp only[j8]
   refine ih (by simpa using hi) (by simpa[Nat.add_assoc,Nat.add_comm 1 i] using hL) fun j it' hij hi' hd'=> ?_
   have:=hj (j+1) it' (by omega) (by simpa using hi') hd'
   simpa[Nat.add_assoc,Nat.add_comm 1 j] using this
theorem K6 {L:Nat->Bool} {b i:Nat} {q:fH} {it:It} (hd:it.u=some (b,q)):∀{its:List It} {k:Nat} {H:Hp},its[i]?=some it->L (k+i)=true->(∀(j:Nat) (it':It),i<j->its[j]?=some it'->(∃q,it'.u=some (b,q))->L (k+j)=false)->bt (j1 L k its H) b=some q:=by
 induction i with
 |zero=>
  intro its k H hi hL hj
  cases its with
  |nil=>simp at hi
  |cons x its=>
   simp at hi
   subst hi
   simp only[j1]
   have hL':L k=true:=hL
   rw[hL',if_pos rfl,hd]
   rw[jq (L':=fun _=>false) (H':=dS H (some (b,q))) rfl fun j it' hi' hd'=> ?_]
   ·have:∀(its:List It) (k:Nat) (H:Hp),j1 (fun _=>false) k its H=H:=by
     intro its
     induction its with
     |nil=>intros;rfl
     |cons y ys ih=>intro k H;simp only[j1];exact ih _ _
    rw[this,nT]
   ·have:=hj (j+1) it' (by omega) (by simpa using hi') hd'
    simpa[Nat.add_assoc,Nat.add_comm 1 j] using this
 |succ i ih=>
  intro its k H hi hL hj
  cases its with
  |nil=>simp at hi
  |cons x its=>
   simp only[j1]
   refine ih (by simpa using hi) (by simpa[Nat.add_assoc,Nat.add_comm 1 i] using hL) fun j it' hij hi' hd'=> ?_
   have:=hj (j+1) it' (by omega) (by simpa using hi') hd'
   simpa[Nat.add_assoc,Nat.add_comm 1 j] using this
theorem rB (L:Nat->Bool):∀(its:List It) (k:Nat) (fr:Fr),j8 L (k+1) its fr=j8 (fun j=>L (j+1)) k its fr
 |[],_,_=>rfl
 |it::its,k,fr=>by simp only[j8];exact rB L its (k+1) _
theorem rC (L:Nat->Bool):∀(its:List It) (k:Nat) (H:Hp),j1 L (k+1) its H=j1 (fun j=>L (j+1)) k its H
 |[],_,_=>rfl
 |it::its,k,H=>by simp only[j1];exact rC L its (k+1) _
theorem ta:∀(its:List It) (k:Nat) (fr:Fr),j8 (fun _=>false) k its fr=fr
 |[],_,_=>rfl
 |_::its,k,fr=>by simp only[j8];exact ta its _ _
theorem tc:∀(its:List It) (k:Nat) (H:Hp),j1 (fun _=>false) k its H=H
 |[],_,_=>rfl
 |_::its,k,H=>by simp only[j1];exact tc its _ _
theorem BD {P:Program}:∀{gs:List iY} {id:Nat} {fr:Fr} {H:Hp} {tr:Tr} {K:Fr->Hp->Tr->Prop},jc P id gs fr H tr K->
 ∃(its:List It) (tl:Tr),its.length=gs.length/\tl.length=gs.length/\K (j8 (fun _=>true) 0 its fr) (j1 (fun _=>true) 0 its H) (tr++tl)/\
  ∀k g,gs[k]?=some g->∃it t,its[k]?=some it/\tl[k]?=some t/\it.dst=g.dst/\vg P (id+k) (j8 (fun j=>decide (j<k)) 0 its fr) (j1 (fun j=>decide (j<k)) 0 its H) g it.r it.u t.1/\
   t.2=it.u.map (·.1)/\(gB P (id+k) (j8 (fun j=>decide (j<k)) 0 its fr) (j1 (fun j=>decide (j<k)) 0 its H) g.op it.r it.u t.1\/it.u=none/\it.r= .sc undef/\dj (j8 (fun j=>decide (j<k)) 0 its fr) g.guard False True/\t.1=[])
 |[],id,fr,H,tr,K,h=>⟨[],[],rfl,rfl,by simpa[j8,j1,jc] using h,by simp⟩
 |g::gs,id,fr,H,tr,K,h=>by
  have cont:∀(r:AV) (u:Option (Nat×fH)) (t:List Nat×Option Nat),vg P id fr H g r u t.1->t.2=u.map (·.1)->(gB P id fr H g.op r u t.1\/u=none/\r= .sc undef/\dj fr g.guard False True/\t.1=[])->
   jc P (id+1) gs (gR fr g.dst r) (dS H u) (tr++[t]) K->∃(its:List It) (tl:Tr),its.length=(g::gs).length/\tl.length=(g::gs).length/\K (j8 (fun _=>true) 0 its fr) (j1 (fun _=>true) 0 its H) (tr++tl)/\
   ∀k g',(g::gs)[k]?=some g'->∃it t,its[k]?=some it/\tl[k]?=some t/\it.dst=g'.dst/\vg P (id+k) (j8 (fun j=>decide (j<k)) 0 its fr) (j1 (fun j=>decide (j<k)) 0 its H) g' it.r it.u t.1/\
    t.2=it.u.map (·.1)/\(gB P (id+k) (j8 (fun j=>decide (j<k)) 0 its fr) (j1 (fun j=>decide (j<k)) 0 its H) g'.op it.r it.u t.1\/it.u=none/\it.r= .sc undef/\dj (j8 (fun j=>decide (j<k)) 0 its fr) g'.guard False True/\t.1=[]):=by
   intro r u t hy ht2 ht1 hrun
   obtain⟨its,tl,l1,l2,hK,hall⟩:=BD hrun
   refine⟨⟨g.dst,r,u⟩::its,t::tl,by simp[l1],by simp[l2], ?_,fun k g' hk=> ?_⟩
   ·simp only[j8,j1,if_true]
    rw[rB,rC]
    simpa using hK
   ·have hF0:j8 (fun j=>decide (j<0)) 0 (⟨g.dst,r,u⟩::its) fr=fr:=by
     have:(fun j:Nat=>decide (j<0))=fun _=>false:=by funext j;simp
     rw[this];exact ta _ _ _
    have hH0:j1 (fun j=>decide (j<0)) 0 (⟨g.dst,r,u⟩::its) H=H:=by
     have:(fun j:Nat=>decide (j<0))=fun _=>false:=by funext j;simp
     rw[this];exact tc _ _ _
    cases k with
    |zero=>
     simp at hk
     subst hk
     refine⟨_,_,rfl,rfl,rfl, ?_⟩
     rw[hF0,hH0]
     exact⟨hy,ht2,ht1⟩
    |succ k=>
     obtain⟨it,t',e1,e2,e3,e4,e5,e6⟩:=hall k g' (by simpa using hk)
     have hFk:j8 (fun j=>decide (j<k+1)) 0 (⟨g.dst,r,u⟩::its) fr=j8 (fun j=>decide (j<k)) 0 its (gR fr g.dst r):=by
      simp only[j8]
      rw[rB]
      simp
     have hHk:j1 (fun j=>decide (j<k+1)) 0 (⟨g.dst,r,u⟩::its) H=j1 (fun j=>decide (j<k)) 0 its (dS H u):=by
      simp only[j1]
      rw[rC]
      simp
     refine⟨it,t',by simpa using e1,by simpa using e2,e3, ?_⟩
     rw[hFk,hHk,show id+(k+1)=id+1+k by omega]
     exact⟨e4,e5,e6⟩
  simp only[jc] at h
  unfold dj at h
  split at h
  ·rename_i hg
   obtain⟨r,u,S,h1,h2⟩:=h.U5
   exact cont r u (S,u.map (·.1)) (by simp only[vg,hg,dj];exact h1) rfl (.inl h1) h2
  ·rename_i d want hg
   split at h
   ·rename_i t ht
    split at h
    ·rename_i htw
     obtain⟨r,u,S,h1,h2⟩:=h.U5
     exact cont r u (S,u.map (·.1)) (by simp only[vg,hg,dj,ht];rw[if_pos htw];exact h1) rfl (.inl h1) h2
    ·rename_i htw
     exact cont (.sc undef) none ([],none) (by simp only[vg,hg,dj,ht];rw[if_neg htw];simp) rfl (.inr ⟨rfl,rfl,by simp only[hg,dj,ht];rw[if_neg htw];trivial,rfl⟩) h
   ·rename_i v hv ht
    have hB:∀A B:Prop,dj fr g.guard A B=B:=by
     intro A B
     simp only[hg,dj,ht]
     try(split<;>first|rfl|(exfalso;rename_i heq;cases heq;exact absurd rfl (hv _)))
    exact cont (.sc undef) none ([],none) (by rw[vg,hB];exact⟨rfl,rfl⟩) rfl (.inr ⟨rfl,rfl,by rw[hB];trivial,rfl⟩) h
   ·exact h.elim
section
section
variable {P:Program}
theorem ct {fr fr':Fr} {x:eO} (h:∀t∈q7 x,cq fr t=cq fr' t):ev fr x=ev fr' x:=by
 cases x
 case m nm n=>simp only[ev,h n (by simp[q7])]
 all_goals first|rfl|exact h _ (by simp[q7])
theorem oI {fr fr':Fr}:∀{xs:List eO},(∀t∈xs.flatMap q7,cq fr t=cq fr' t)->vl fr xs=vl fr' xs
 |[],_=>rfl
 |x::xs,h=>by
  simp only[vl]
  rw[ct fun t ht=>h t (by simp[ht]),oI fun t ht=>h t (by
   simp only[List.flatMap_cons,List.mem_append];exact .inr ht)]
theorem wV {fr fr':Fr}:∀{ps:List (Nat×Nat×eO)},(∀t∈(ps.map (·.2.2)).flatMap q7,cq fr t=cq fr' t)->SC fr ps=SC fr' ps
 |[],_=>rfl
 |(i,j,x)::ps,h=>by
  simp only[SC]
  rw[ct fun t ht=>h t (by simp[ht]),wV fun t ht=>h t (by
   simp only[List.map_cons,List.flatMap_cons,List.mem_append];exact .inr ht)]
theorem wW {fr fr':Fr}:∀{ps:List (Nat×eO)},(∀t∈(ps.map (·.2)).flatMap q7,cq fr t=cq fr' t)->F1 fr ps=F1 fr' ps
 |[],_=>rfl
 |(i,x)::ps,h=>by
  simp only[F1]
  rw[ct fun t ht=>h t (by simp[ht]),wW fun t ht=>h t (by
   simp only[List.map_cons,List.flatMap_cons,List.mem_append];exact .inr ht)]
theorem AK {H H':Hp} {x:AV} (h:∀b∈iO x,bt H b=bt H' b):k9 H x=k9 H' x:=by
 cases x<;>simp only[k9]
 rw[h _ (by simp[iO])]
theorem DN {H H':Hp} {x:AV} (h:∀b∈iO x,bt H b=bt H' b):u9 H x=u9 H' x:=by
 unfold u9
 split<;>first|rfl|(rw[h _ (by simp[iO])])
theorem mI {H H':Hp} {x:AV} (h:∀b∈iO x,bt H b=bt H' b):ic H x=ic H' x:=by
 unfold ic
 split<;>first|rfl|(rw[h _ (by simp[iO])])
theorem rz {H H':Hp} {x:AV} {k:Nat} (h:∀b∈iO x,bt H b=bt H' b):BP H k x=BP H' k x:=by
 unfold BP
 split<;>first|rfl|(rw[h _ (by simp[iO])])
theorem IP {H H':Hp} {x i:AV} {k:Nat} {n:Option Nat} (h:∀b∈iO x,bt H b=bt H' b):KS H k n x i=KS H' k n x i:=by
 unfold KS
 split
 ·split
  ·split<;>first|rfl|(rw[h _ (by simp[iO])])
  ·split<;>first|rfl|(rw[h _ (by simp[iO])])
 ·rfl
theorem kb {H H':Hp} {x:AV} (h:∀b∈iO x,bt H b=bt H' b):mapOf H x=mapOf H' x:=by
 cases x<;>simp only[mapOf]
 rw[h _ (by simp[iO])]
theorem DX {H H':Hp} {x:AV} (h:∀b∈iO x,bt H b=bt H' b):uo H x=uo H' x:=by
 unfold uo
 split<;>first|rfl|(rw[h _ (by simp[iO])])
theorem E0 {H H':Hp} {x:AV} {k:Nat} {lo hi:Option AV} (h:∀b∈iO x,bt H b=bt H' b):vJ H k lo hi x=vJ H' k lo hi x:=by
 unfold vJ
 split<;>first|rfl|(rw[h _ (by simp[iO])])
theorem DH {H H':Hp} {n:Nat} {x i:AV} (h:∀b∈iO x,bt H b=bt H' b):DG H n x i=DG H' n x i:=by
 unfold DG
 split<;>first|rfl|(rw[h _ (by simp[iO])])
theorem EZ {H H':Hp} {n:Nat} {x i:AV} (h:∀b∈iO x,bt H b=bt H' b):EY H n x i=EY H' n x i:=by
 unfold EY
 split<;>first|rfl|(rw[h _ (by simp[iO])])
theorem BL {id:Nat} {fr fr':Fr} {H H':Hp} {op:df} (hF:∀t∈op.eT.flatMap q7,cq fr t=cq fr' t) (hH:∀b∈eo fr op,bt H b=bt H' b):cM id fr H op=cM id fr' H' op:=by
 cases op
 case U8 z ps=>simp only[cM,wV hF]
 case R8 e sz ag z n ps=>simp only[cM,wW hF]
 case VF f p q=>
  simp only[df.eT,List.flatMap_append,List.mem_append] at hF
  simp only[cM,oI fun t ht=>hF t (.inl ht),oI fun t ht=>hF t (.inr ht)]
 case call f as=>rfl
 case alloc e sz ag z=>rfl
 case RI sz x lo hi=>
  simp only[df.eT,List.flatMap_append,List.flatMap_cons,List.flatMap_nil,List.append_nil,List.mem_append] at hF
  have e:=ct fun t ht=>hF t (.inl (.inl ht))
  have e1:lo.map (ev fr)=lo.map (ev fr'):=by
   cases lo with
   |none=>rfl
   |some y=>simp only[Option.map_some,Option.some.injEq];exact ct fun t ht=>hF t (.inl (.inr (by simpa using ht)))
  have e2:hi.map (ev fr)=hi.map (ev fr'):=by
   cases hi with
   |none=>rfl
   |some y=>simp only[Option.map_some,Option.some.injEq];exact ct fun t ht=>hF t (.inr (by simpa using ht))
  simp only[cM,<-e,<-e1,<-e2]
  rw[E0 fun b hb=>hH b (by simp[eo,df.rd,df.eT,hb])]
 all_goals simp only[df.eT,List.flatMap_cons,List.flatMap_nil,List.append_nil,List.mem_append] at hF
 case VI sz x a b=>
  have e0:=ct fun t ht=>hF t (.inl ht)
  have e1:=ct fun t ht=>hF t (.inr (.inl ht))
  have e2:=ct fun t ht=>hF t (.inr (.inr ht))
  simp only[cM,<-e0,<-e1,<-e2]
 case pick a b k=>
  simp only[cM,ct fun t ht=>hF t (.inl ht),ct fun t ht=>hF t (.inr (.inl ht)),ct fun t ht=>hF t (.inr (.inr ht))]
 case ld ag k x=>
  have e:=ct hF
  simp only[cM,<-e,AK fun b hb=>hH b (by simpa[eo,df.rd,df.eT] using hb)]
 case fa off x=>
  have e:=ct hF
  simp only[cM,<-e]
  split<;>first|rfl|(rename_i hx;rw[hH _ (by simp[eo,df.rd,df.eT,hx,iO])])
 case len x=>
  have e:=ct hF
  simp only[cM,<-e,DN fun b hb=>hH b (by simpa[eo,df.rd,df.eT] using hb)]
 case PU sz ag z x=>
  have e:=ct hF
  simp only[cM,<-e]
  split<;>first|rfl|(rename_i hx;rw[hH _ (by simp[eo,df.rd,df.eT,hx,iO])])
 case TA x=>
  have e:=ct hF
  simp only[cM,<-e,mI (x:=ev fr x) fun b hb=>hH b (by simp[eo,df.rd,df.eT,hb]),rz (x:=ev fr x) fun b hb=>hH b (by simp[eo,df.rd,df.eT,hb])]
 case AW neg x=>
  have e:=ct hF
  simp only[cM,<-e,DX fun b hb=>hH b (by simpa[eo,df.rd,df.eT] using hb)]
 case P1 sz x y=>
  have e1:=ct fun t ht=>hF t (.inl ht)
  have e2:=ct fun t ht=>hF t (.inr ht)
  simp only[cM,<-e1,<-e2,mI (x:=ev fr y) fun b hb=>hH b (by simp[eo,df.rd,df.eT,hb]),rz (x:=ev fr y) fun b hb=>hH b (by simp[eo,df.rd,df.eT,hb])]
  split<;>first|rfl|(rename_i hx _;rw[hH _ (by simp[eo,df.rd,df.eT,hx,iO])])
 case st ag k x y=>
  have e1:=ct fun t ht=>hF t (.inl ht)
  have e2:=ct fun t ht=>hF t (.inr ht)
  simp only[cM,<-e1,<-e2]
  split<;>first|rfl|(rename_i hx;rw[hH _ (by simp[eo,df.rd,df.eT,hx,iO])])
 case ia k n x i=>
  have e1:=ct fun t ht=>hF t (.inl ht)
  have e2:=ct fun t ht=>hF t (.inr ht)
  simp only[cM,<-e1,<-e2,IP (x:=ev fr x) fun b hb=>hH b (by simp[eo,df.rd,df.eT,hb])]
 case app e sz bytes ag z s x=>
  have e1:=ct fun t ht=>hF t (.inl ht)
  have e2:=ct fun t ht=>hF t (.inr ht)
  simp only[cM,<-e1,<-e2,mI (x:=ev fr x) fun b hb=>hH b (by simp[eo,df.rd,df.eT,hb]),rz (x:=ev fr x) fun b hb=>hH b (by simp[eo,df.rd,df.eT,hb])]
  split
  ·split
   ·split<;>first|rfl|(rename_i hx;rw[hH _ (by simp[eo,df.rd,df.eT,hx,iO])])
   ·rfl
  ·rfl
 case K8 e bytes z s x=>
  have e1:=ct fun t ht=>hF t (.inl ht)
  have e2:=ct fun t ht=>hF t (.inr ht)
  simp only[cM,<-e1,<-e2]
  split
  ·split<;>first|rfl|(rename_i hx;rw[hH _ (by simp[eo,df.rd,df.eT,hx,iO])])
  ·rfl
 case QU str ag z ok x k=>
  have e1:=ct fun t ht=>hF t (.inl ht)
  have e2:=ct fun t ht=>hF t (.inr ht)
  simp only[cM,<-e1,<-e2,kb (x:=ev fr x) fun b hb=>hH b (by simp[eo,df.rd,df.eT,hb])]
 case del str x k=>
  have e1:=ct fun t ht=>hF t (.inl ht)
  have e2:=ct fun t ht=>hF t (.inr ht)
  simp only[cM,<-e1,<-e2,kb (x:=ev fr x) fun b hb=>hH b (by simp[eo,df.rd,df.eT,hb])]
 case KT str x k y=>
  have e1:=ct fun t ht=>hF t (.inl ht)
  have e2:=ct fun t ht=>hF t (.inr (.inl ht))
  have e3:=ct fun t ht=>hF t (.inr (.inr ht))
  simp only[cM,<-e1,<-e2,<-e3,kb (x:=ev fr x) fun b hb=>hH b (by simp[eo,df.rd,df.eT,hb])]
 case DO x=>
  have e:=ct hF
  simp only[cM,<-e,kb fun b hb=>hH b (by simpa[eo,df.rd,df.eT] using hb)]
 case SQ kt=>rfl
 case yw e sz v=>rfl
 case R6 e n=>rfl
 case bad=>rfl
 case TW n x i=>
  have e1:=ct fun t ht=>hF t (.inl ht)
  have e2:=ct fun t ht=>hF t (.inr ht)
  simp only[cM,<-e1,<-e2,DH (x:=ev fr x) fun b hb=>hH b (by simp[eo,df.rd,df.eT,hb])]
 case UM n x i=>
  have e1:=ct fun t ht=>hF t (.inl ht)
  have e2:=ct fun t ht=>hF t (.inr ht)
  simp only[cM,<-e1,<-e2,EZ (x:=ev fr x) fun b hb=>hH b (by simp[eo,df.rd,df.eT,hb])]
 case HA sz v=>rfl
 all_goals first
  |(have e:=ct hF;simp only[cM,e];done)
  |(have e1:=ct fun t ht=>hF t (.inl ht);have e2:=ct fun t ht=>hF t (.inr ht);simp only[cM,e1,e2];done)
theorem B2 {id:Nat} {fr fr':Fr} {H H':Hp} {op:df} {r:AV} {u:Option (Nat×fH)} {S:List Nat} (hF:∀t∈op.eT.flatMap q7,cq fr t=cq fr' t) (h:gB P id fr H op r u S) (hH:∀b∈S,bt H b=bt H' b):gB P id fr' H' op r u S:=by
 by_cases hc:∃f as,op= .call f as
 ·obtain⟨f,as,rfl⟩:=hc
  simp only[df.eT,List.flatMap_cons,List.mem_append] at hF
  simp only[gB] at h ⊢
  rw[<-ct fun t ht=>hF t (.inl ht),<-oI fun t ht=>hF t (.inr ht)]
  unfold pk at h ⊢
  split
  ·rename_i he
   simp only[he] at h
   exact⟨fun H1 h1=>h.1 H1 fun b hb=>(h1 b hb).trans (hH b hb).symm,h.2⟩
  ·rename_i hne
   split at h
   ·rename_i he;exact absurd he (hne _ _ _)
   ·exact h
 ·have e:∀fr H,gB P id fr H op r u S=(cM id fr H op=some (r,u)/\S=eo fr op):=by
   intro fr H
   cases op<;>first|rfl|exact absurd ⟨_,_,rfl⟩ hc
  rw[e] at h ⊢
  obtain⟨h1,h2⟩:=h
  have hi:eo fr op=eo fr' op:=by
   unfold eo
   split
   ·have:∀x∈op.eT,ev fr x=ev fr' x:=fun x hx=>ct fun t ht=>hF t (List.mem_flatMap.2 ⟨x,hx,ht⟩)
    have aux:∀l:List eO,(∀x∈l,ev fr x=ev fr' x)->(l.flatMap fun x=>iO (ev fr x))=l.flatMap fun x=>iO (ev fr' x):=by
     intro l
     induction l with
     |nil=>intro _;rfl
     |cons y l ih=>intro hl;simp only[List.flatMap_cons];rw[hl y (by simp),ih fun x hx=>hl x (by simp[hx])]
    exact aux _ this
   ·rfl
  refine⟨?_,h2.trans hi⟩
  rw[<-BL hF fun b hb=>hH b (by rw[h2];exact hb)]
  exact h1
theorem O7 {id:Nat} {fr:Fr} {H:Hp} {op:df} {r:AV} {b:Nat} {q:fH} {S:List Nat} (h:gB P id fr H op r (some (b,q)) S):op.wr=true/\(op.rd=false->b=id):=by
 cases op
 case call f as=>
  exact⟨rfl,fun hr=>by cases hr⟩
 case st=>exact⟨rfl,by simp[df.rd]⟩
 case P1=>exact⟨rfl,by simp[df.rd]⟩
 case PU=>exact⟨rfl,by simp[df.rd]⟩
 case app=>exact⟨rfl,by simp[df.rd]⟩
 case K8=>exact⟨rfl,by simp[df.rd]⟩
 case KT=>exact⟨rfl,by simp[df.rd]⟩
 case del=>exact⟨rfl,by simp[df.rd]⟩
 case SQ=>
  simp only[gB,cM,Option.some.injEq,Prod.mk.injEq] at h
  exact⟨rfl,fun _=>h.1.2.1.symm⟩
 case R6=>
  simp only[gB,cM,Option.some.injEq,Prod.mk.injEq] at h
  exact⟨rfl,fun _=>h.1.2.1.symm⟩
 case yw=>
  simp only[gB,cM,Option.some.injEq,Prod.mk.injEq] at h
  exact⟨rfl,fun _=>h.1.2.1.symm⟩
 case alloc=>
  simp only[gB,cM,Option.ite_none_right_eq_some,Option.some.injEq,Prod.mk.injEq] at h
  exact⟨rfl,fun _=>h.1.2.2.1.symm⟩
 case box=>
  simp only[gB,cM,Option.ite_none_right_eq_some,Option.some.injEq,Prod.mk.injEq] at h
  exact⟨rfl,fun _=>h.1.2.2.1.symm⟩
 case R8=>
  simp only[gB,cM,Option.ite_none_right_eq_some,Option.some.injEq,Prod.mk.injEq] at h
  exact⟨rfl,fun _=>h.1.2.2.1.symm⟩
 case T9=>
  simp only[gB,cM] at h
  split at h
  ·simp only[Option.ite_none_right_eq_some,Option.some.injEq,Prod.mk.injEq] at h
   exact⟨rfl,fun _=>h.1.2.2.1.symm⟩
  ·simp at h
 all_goals
  exfalso
  simp only[gB,cM] at h
  revert h
  repeat' split
  all_goals simp[Option.map_eq_some_iff]
theorem KR {id:Nat} {fr:Fr} {H:Hp} {op:df} {r:AV} {u:Option (Nat×fH)} {S:List Nat} (h:gB P id fr H op r u S) (hr:op.rd=false):S=[]:=by
 cases op
 case call f as=>cases hr
 all_goals
  have h2:=h.2
  rw[h2,eo,hr];rfl
def C3 (s t:List Nat×Option Nat):Prop:=(∀b,s.2=some b->b∉t.1)/\(∀b,t.2=some b->b∉s.1)/\∀b,¬(s.2=some b/\t.2=some b)
def j5 (tr:Tr) (ps:List (Nat×Nat)):Prop:=∀p∈ps,C3 (tr.getD p.1 ([],none)) (tr.getD p.2 ([],none))
theorem rZ {n:Nat} {ops:Array Oper}:∀{l:List Oper} {gs:List iY},mn P n ops l=some gs->gs.length=l.length/\∀(k:Nat) (o:Oper),l[k]?=some o->∃g:iY,gs[k]?=some g/\mq P o=some g.op/\g.dst=o.dst/\(∀x,o.dst=some x->x<n)/\
 (match o.guard with|none=>g.guard=none|some (j,want)=>∃d,(ops[j]?).bind (·.dst)=some d/\g.guard=some (d,want))
 |[],gs,h=>by simp only[mn,Option.some.injEq] at h;subst h;simp
 |o::l,gs,h=>by
  simp only[mn] at h
  split at h
  ·rename_i lop gs' h1 h2
   simp only[Option.ite_none_right_eq_some] at h
   obtain⟨hd,h⟩:=h
   obtain⟨e1,e2⟩:=rZ h2
   have hdst:∀x,o.dst=some x->x<n:=fun x hx=>by rw[hx] at hd;simpa using hd
   have key:∃gd,gs=⟨o.dst,gd,lop⟩::gs'/\(match o.guard with|none=>gd=none|some (j,want)=>∃d,(ops[j]?).bind (·.dst)=some d/\gd=some (d,want)):=by
    split at h
    ·rename_i hg
     simp only[Option.some.injEq] at h
     exact⟨none,h.symm,by rw[hg]⟩
    ·rename_i j want hg
     split at h
     ·rename_i d hd
      simp only[Option.some.injEq] at h
      exact⟨_,h.symm,by rw[hg];exact⟨d,hd,rfl⟩⟩
     ·simp at h
   obtain⟨gd,rfl,hgd⟩:=key
   refine⟨by simp[e1],fun k o' hk=> ?_⟩
   cases k with
   |zero=>
    simp at hk
    subst hk
    exact⟨_,rfl,h1,rfl,hdst,hgd⟩
   |succ k=>
    obtain⟨g,q1,q2⟩:=e2 k o' (by simpa using hk)
    exact⟨g,by simpa using q1,q2⟩
  ·simp at h
theorem nX {c:Cx} {fr:Fr} {a:Act} {o:Oper} {ops:Array Oper} {g:Option (Nat×Bool)} (hF:FR c fr a.tmps)
 (hg:match o.guard with|none=>g=none|some (j,want)=>∃d,(ops[j]?).bind (·.dst)=some d/\g=some (d,want)) {A B:Prop} (h:dj fr g A B):
 (Region.wanted o (yielded ops a.tmps)=true/\A)\/(Region.wanted o (yielded ops a.tmps)=false/\B):=by
 cases ho:o.guard with
 |none=>
  rw[ho] at hg
  simp only at hg
  subst hg
  exact .inl ⟨by simp[Region.wanted,ho],h⟩
 |some gd=>
  obtain⟨j,want⟩:=gd
  rw[ho] at hg
  obtain⟨d,hdj,rfl⟩:=hg
  simp only[dj] at h
  have hfd:=hF d
  simp only[Region.wanted,ho,yielded,hdj,Option.bind_some]
  split at h
  ·rename_i t ht
   rw[ht,VR] at hfd
   have hsome:a.tmps[d]?=some (.bool t):=by
    rw[Array.getD_eq_getD_getElem?] at hfd
    cases hx:a.tmps[d]? with
    |none=>rw[hx] at hfd;cases hfd
    |some y=>rw[hx] at hfd;simp at hfd;rw[hfd]
   simp only[hsome]
   by_cases htw:t=want
   ·rw[if_pos htw] at h;exact .inl ⟨by simp[htw],h⟩
   ·rw[if_neg htw] at h;exact .inr ⟨by simp[htw],h⟩
  ·rename_i u hu ht
   rw[ht,VR] at hfd
   have hno:∀t,a.tmps[d]?≠some (.bool t):=by
    intro t hx
    rw[Array.getD_eq_getD_getElem?,hx] at hfd
    exact hu t hfd.symm
   refine .inr ⟨?_,h⟩
   split
   ·rename_i b hb;exact absurd hb (hno b)
   ·simp
  ·exact h.elim
def KV (pr:Nat->List Nat) (acc:List Nat):Prop:=
 ∀j i,(acc.getD j 0).testBit i=true->i<j/\∀L:Nat->Bool,(∀k,L k=true->∀p∈pr k,L p=true)->(∀p∈pr j,L p=true)->L i=true
theorem wF {acc:List Nat} {i:Nat}:∀{ps:List Nat},(xb acc ps).testBit i=true->∃p∈ps,p=i\/(acc.getD p 0).testBit i=true
 |[],h=>by simp[xb] at h
 |p::r,h=>by
  simp only[xb,Nat.testBit_or,Bool.or_eq_true] at h
  rcases h with h|h|h
  ·rw[Nat.testBit_shiftLeft] at h
   simp only[Bool.and_eq_true,decide_eq_true_eq,ge_iff_le] at h
   refine⟨p,by simp, .inl ?_⟩
   have h2:=h.2
   by_cases he:i - p=0
   ·omega
   ·rw[Nat.testBit_one_eq_true_iff_self_eq_zero] at h2;omega
  ·exact⟨p,by simp, .inr h⟩
  ·obtain⟨q,hq,h⟩:=wF h
   exact⟨q,by simp[hq],h⟩
theorem wG {pr:Nat->List Nat} (hb:∀k,∀p∈pr k,p<k):∀(l:List (List Nat)) (acc:List Nat),KV pr acc->(∀k ps,l[k]?=some ps->ps=pr (acc.length+k))->KV pr (PK l acc)
 |[],acc,h,_=>h
 |ps::l,acc,h,hl=>by
  simp only[PK]
  refine wG hb l _ ?_ fun k qs hk=> ?_
  ·intro j i hj
   by_cases hlt:j<acc.length
   ·have e:(acc++[xb acc ps]).getD j 0=acc.getD j 0:=by simp[List.getD,List.getElem?_append_left hlt]
    rw[e] at hj
    exact h j i hj
   ·by_cases he:j=acc.length
    ·subst he
     have e:(acc++[xb acc ps]).getD acc.length 0=xb acc ps:=by simp[List.getD]
     rw[e] at hj
     obtain⟨p,hp,hor⟩:=wF hj
     have hps:=hl 0 ps rfl
     simp only[Nat.add_zero] at hps
     rw[hps] at hp
     have hpl:=hb _ p hp
     rcases hor with rfl|hor
     ·exact⟨hpl,fun L _ h2=>h2 _ hp⟩
     ·obtain⟨g1,g2⟩:=h p i hor
      exact⟨by omega,fun L h1 h2=>g2 L h1 (h1 p (h2 p hp))⟩
    ·have e:(acc++[xb acc ps]).getD j 0=0:=by
      simp only[List.getD]
      rw[List.getElem?_eq_none (by simp;omega)]
      rfl
     rw[e] at hj
     simp at hj
  ·have:=hl (k+1) qs (by simpa using hk)
   rw[this]
   simp only[List.length_append,List.length_cons,List.length_nil]
   congr 1
   omega
theorem oC {ops:Array Oper} (hb:∀k,∀p∈jG ops k,p<k):KV (jG ops) (je ops):=
 wG hb _ [] (fun j i h=>by simp at h) fun k ps h=>by
  simp only[List.getElem?_map,Option.map_eq_some_iff] at h
  obtain⟨k',hk,rfl⟩:=h
  have:=List.getElem?_eq_some_iff.1 hk
  obtain⟨h1,h2⟩:=this
  simp at h2
  simp[h2]
theorem pI {an:List Nat} {N k i j:Nat} (h:cutAt an N k=true) (hi:i<k) (hk:k<=j) (hj:j<N):eQ an i j=true:=by
 simp only[cutAt,List.all_eq_true,List.mem_range,beq_iff_eq] at h
 have h1:=h (j - k) (by omega)
 rw[show k+(j - k)=j by omega] at h1
 have h2:((an.getD j 0)%2^k).testBit i=true:=by rw[h1,Nat.testBit_two_pow_sub_one];simpa using hi
 rw[Nat.testBit_mod_two_pow] at h2
 simp only[Bool.and_eq_true] at h2
 exact h2.2
end
end
section
section
variable {P:Program} {n lo l0:Nat} {c0:Cx} {ops:Array Oper} {gs:List iY} {its:List It} {tl:Tr} {fr:Fr} {H:Hp} {nx:Nat} {w0:World} {M0:Nat->Prop} {ps:List (Nat×Nat)}
def fk (listed:Array Bool) (k:Nat):Bool:=listed.getD k false
structure SZ (P:Program) (n:Nat) (ops:Array Oper) (l0:Nat) (gs:List iY) (its:List It) (tl:Tr) (fr:Fr) (H:Hp) (nx:Nat):Prop where
 len:l0+gs.length<=ops.size
 low:∀(k:Nat) (o:Oper),k<gs.length->ops[l0+k]?=some o->∃g:iY,gs[k]?=some g/\mq P o=some g.op/\g.dst=o.dst/\(∀x,o.dst=some x->x<n)/\
  (match o.guard with|none=>g.guard=none|some (j,want)=>∃d,(ops[j]?).bind (·.dst)=some d/\g.guard=some (d,want))
 il:its.length=gs.length
 U5:∀(k:Nat) (g:iY),gs[k]?=some g->∃it t,its[k]?=some it/\tl[k]?=some t/\it.dst=g.dst/\vg P (nx+k) (j8 (fun j=>decide (j<k)) 0 its fr) (j1 (fun j=>decide (j<k)) 0 its H) g it.r it.u t.1/\
  t.2=it.u.map (·.1)/\(gB P (nx+k) (j8 (fun j=>decide (j<k)) 0 its fr) (j1 (fun j=>decide (j<k)) 0 its H) g.op it.r it.u t.1\/it.u=none/\it.r= .sc undef/\dj (j8 (fun j=>decide (j<k)) 0 its fr) g.guard False True/\t.1=[])
 back:∀k,∀p∈jG ops k,p<k
 free:∀i j,i<j->j<gs.length->eQ (je ops) (l0+i) (l0+j)=false->xc (gs.getD i default) (gs.getD j default)=true
 HT:∀i j,i<j->j<gs.length->eQ (je ops) (l0+i) (l0+j)=false->(((gs.getD i default).op.wr&&(gs.getD j default).op.rd)||((gs.getD i default).op.rd&&(gs.getD j default).op.wr))=true->C3 (tl.getD i ([],none)) (tl.getD j ([],none))
theorem kd {N i j:Nat}:(i,j)∈oV N↔i<j/\j<N:=by
 simp only[oV,List.mem_flatMap,List.mem_range,List.mem_map,Prod.mk.injEq]
 constructor
 ·rintro⟨j',hj,i',hi,rfl,rfl⟩;exact⟨hi,hj⟩
 ·rintro⟨h1,h2⟩;exact⟨j,h2,i,h1,rfl,rfl⟩
theorem SZ.apart (R:SZ P n ops l0 gs its tl fr H nx) {i j:Nat} {gi gj:iY} {a b:It} {s t:List Nat×Option Nat} (hne:i≠j) (hi:gs[i]?=some gi) (hj:gs[j]?=some gj) (ha:its[i]?=some a) (hb:its[j]?=some b) (hs:tl[i]?=some s) (ht:tl[j]?=some t)
 (h1:eQ (je ops) (l0+i) (l0+j)=false) (h2:eQ (je ops) (l0+j) (l0+i)=false):(∀d,a.dst=some d->d∉gj.ts/\b.dst≠some d)/\(∀d,b.dst=some d->d∉gi.ts)/\C3 s t:=by
 have main:∀{i j:Nat} {gi gj:iY} {a b:It} {s t:List Nat×Option Nat},i<j->gs[i]?=some gi->gs[j]?=some gj->its[i]?=some a->its[j]?=some b->tl[i]?=some s->tl[j]?=some t->eQ (je ops) (l0+i) (l0+j)=false->
  (∀d,a.dst=some d->d∉gj.ts/\b.dst≠some d)/\(∀d,b.dst=some d->d∉gi.ts)/\C3 s t:=by
  intro i j gi gj a b s t hij hi hj ha hb hs ht hbw
  have hjl:j<gs.length:=(List.getElem?_eq_some_iff.1 hj).1
  have gi':gs.getD i default=gi:=by simp[List.getD,hi]
  have gj':gs.getD j default=gj:=by simp[List.getD,hj]
  obtain⟨a',s',e1,e2,e3,e4,e5,e6⟩:=R.U5 i gi hi
  obtain⟨b',t',f1,f2,f3,f4,f5,f6⟩:=R.U5 j gj hj
  rw[ha] at e1;cases e1
  rw[hs] at e2;cases e2
  rw[hb] at f1;cases f1
  rw[ht] at f2;cases f2
  have hap:=R.free i j hij hjl hbw
  rw[gi',gj'] at hap
  simp only[xc,Bool.and_eq_true] at hap
  obtain⟨q1,q2⟩:=hap
  refine⟨fun d hd=> ?_,fun d hd=> ?_, ?_⟩
  ·rw[e3] at hd
   rw[hd] at q1
   simp only[Bool.and_eq_true,Bool.not_eq_true',bne_iff_ne,ne_eq] at q1
   refine⟨fun hm=> ?_,by rw[f3];exact q1.2⟩
   have:=q1.1
   simp at this
   exact this hm
  ·rw[f3] at hd
   rw[hd] at q2
   intro hm
   simp at q2
   exact q2 hm
  ·by_cases hw:((gi.op.wr&&gj.op.rd)||(gi.op.rd&&gj.op.wr))=true
   ·have:=R.HT i j hij hjl hbw (by rw[gi',gj'];exact hw)
    simpa[List.getD,hs,ht] using this
   ·have hwr:∀{x:It} {g:iY} {t:List Nat×Option Nat} {k bb:Nat},t.2=x.u.map (·.1)->t.2=some bb->(gB P (nx+k) (j8 (fun j=>decide (j<k)) 0 its fr) (j1 (fun j=>decide (j<k)) 0 its H) g.op x.r x.u t.1\/x.u=none/\x.r= .sc undef/\dj (j8 (fun j=>decide (j<k)) 0 its fr) g.guard False True/\t.1=[])->
     g.op.wr=true/\(g.op.rd=false->bb=nx+k):=by
     intro x g t k bb h1 h2 h3
     rw[h2] at h1
     cases hu:x.u with
     |none=>rw[hu] at h1;simp at h1
     |some p=>
      obtain⟨b0,q⟩:=p
      rw[hu] at h1
      simp at h1
      subst h1
      rcases h3 with h3|⟨h3,_⟩
      ·rw[hu] at h3;exact O7 h3
      ·rw[hu] at h3;cases h3
    have hids:∀{x:It} {g:iY} {t:List Nat×Option Nat} {k:Nat},g.op.rd=false->(gB P (nx+k) (j8 (fun j=>decide (j<k)) 0 its fr) (j1 (fun j=>decide (j<k)) 0 its H) g.op x.r x.u t.1\/x.u=none/\x.r= .sc undef/\dj (j8 (fun j=>decide (j<k)) 0 its fr) g.guard False True/\t.1=[])->t.1=[]:=by
     intro x g t k h1 h2
     rcases h2 with h2|⟨_,_,_,h2⟩
     ·exact KR h2 h1
     ·exact h2
    simp only[Bool.or_eq_true,Bool.and_eq_true,not_or,not_and,Bool.not_eq_true] at hw
    refine⟨fun b0 hb0=> ?_,fun b0 hb0=> ?_,fun b0 hb0=> ?_⟩
    ·have:=hwr e5 hb0 e6
     rw[hids (hw.1 this.1) f6];simp
    ·have h3:=hwr f5 hb0 f6
     have hri:gi.op.rd=false:=by
      cases hr:gi.op.rd with
      |false=>rfl
      |true=>have:=hw.2 hr;rw[h3.1] at this;cases this
     rw[hids hri e6];simp
    ·have h3:=hwr e5 hb0.1 e6
     have h4:=hwr f5 hb0.2 f6
     have hri:gi.op.rd=false:=by
      cases hr:gi.op.rd with
      |false=>rfl
      |true=>have:=hw.2 hr;rw[h4.1] at this;cases this
     have:=h3.2 hri
     have:=h4.2 (hw.1 h3.1)
     omega
 rcases Nat.lt_or_gt_of_ne hne with hlt|hgt
 ·exact main hlt hi hj ha hb hs ht h1
 ·obtain⟨m1,m2,m3⟩:=main hgt hj hi hb ha ht hs h2
  exact⟨fun d hd=>⟨m2 d hd,fun e=>(m1 d e).2 hd⟩,fun d hd=>(m1 d hd).1,m3.2.1,m3.1,fun b hb=>m3.2.2 b ⟨hb.2,hb.1⟩⟩
theorem SZ.step (R:SZ P n ops l0 gs its tl fr H nx) {Lg:Nat->Bool} (hdc:∀k,Lg k=true->∀p∈jG ops k,Lg p=true) {i:Nat} {o:Oper} (hil:i<gs.length) (ho:ops[l0+i]?=some o) (hi:Lg (l0+i)=false) (hp:∀p∈jG ops (l0+i),Lg p=true)
 {L:Nat->Bool} (hL:L=fun k=>Lg (l0+k)):
 ∃(g:iY) (it:It),gs[i]?=some g/\its[i]?=some it/\it.dst=o.dst/\mq P o=some g.op/\(∀x,o.dst=some x->x<n)/\(∃S,vg P (nx+i) (j8 L 0 its fr) (j1 L 0 its H) g it.r it.u S)/\
  (match o.guard with|none=>g.guard=none|some (j,want)=>∃d,(ops[j]?).bind (·.dst)=some d/\g.guard=some (d,want))/\
  (∀t,cq (gR (j8 L 0 its fr) it.dst it.r) t=cq (j8 (fun k=>L k||k==i) 0 its fr) t)/\(∀b,bt (dS (j1 L 0 its H) it.u) b=bt (j1 (fun k=>L k||k==i) 0 its H) b):=by
 obtain⟨g,hg,hl,hd,hdst,hgd⟩:=R.low i o hil ho
 obtain⟨it,t,e1,e2,e3,e4,e5,e6⟩:=R.U5 i g hg
 have hA:=oC R.back
 have hi:L i=false:=by rw[hL];exact hi
 have hir:∀j,eQ (je ops) (l0+j) (l0+i)=true->L j=true:=fun j hj=>by rw[hL];exact(hA _ _ hj).2 Lg hdc hp
 have hri:∀j,L j=true->eQ (je ops) (l0+i) (l0+j)=false:=by
  intro j hj
  cases hr:eQ (je ops) (l0+i) (l0+j) with
  |false=>rfl
  |true=>
   rw[hL] at hj hi
   have:=(hA _ _ hr).2 Lg hdc (hdc _ hj)
   simp only at hi
   rw[hi] at this;cases this
 -- what a step that is out of order touches
 have other:∀j it',its[j]?=some it'->j≠i->(L j=true/\¬j<i\/L j=false/\j<i)->(∀d,it'.dst=some d->d∉g.ts)/\(∀d,it'.dst=some d->it.dst≠some d)/\∃t',tl[j]?=some t'/\t'.2=it'.u.map (·.1)/\C3 t t':=by
  intro j it' hj hne hor
  have hjl:j<gs.length:=by have:=(List.getElem?_eq_some_iff.1 hj).1;rw[R.il] at this;exact this
  obtain⟨it2,t',f1,f2,f3,f4,f5,f6⟩:=R.U5 j gs[j] (List.getElem?_eq_getElem hjl)
  rw[hj] at f1;cases f1
  have b1:eQ (je ops) (l0+i) (l0+j)=false:=by
   rcases hor with⟨h1,h2⟩|⟨h1,h2⟩
   ·exact hri j h1
   ·cases hr:eQ (je ops) (l0+i) (l0+j) with
    |false=>rfl
    |true=>have:=(hA _ _ hr).1;omega
  have b2:eQ (je ops) (l0+j) (l0+i)=false:=by
   cases hr:eQ (je ops) (l0+j) (l0+i) with
   |false=>rfl
   |true=>
    have h3:=hir j hr
    rcases hor with⟨_,h2⟩|⟨h1,_⟩
    ·have:=(hA _ _ hr).1;omega
    ·rw[h1] at h3;cases h3
  obtain⟨a1,a2,a3⟩:=R.apart (Ne.symm hne) hg (List.getElem?_eq_getElem hjl) e1 hj e2 f2 b1 b2
  exact⟨a2,fun d hd hi'=>(a1 d hi').2 hd,t',f2,f5,a3⟩
 have hFts:∀t∈g.ts,cq (j8 (fun j=>decide (j<i)) 0 its fr) t=cq (j8 L 0 its fr) t:=by
  intro tt ht
  refine jo rfl fun j it' hj hd=> ?_
  simp only[Nat.zero_add]
  by_cases hji:j=i
  ·subst hji;simp[hi]
  ·cases hLj:L j with
   |true=>
    by_cases hlt:j<i
    ·simp[hlt]
    ·exact absurd ht ((other j it' hj hji (.inl ⟨hLj,hlt⟩)).1 tt hd)
   |false=>
    by_cases hlt:j<i
    ·exact absurd ht ((other j it' hj hji (.inr ⟨hLj,hlt⟩)).1 tt hd)
    ·simp[hlt]
 have hHids:∀b∈t.1,bt (j1 (fun j=>decide (j<i)) 0 its H) b=bt (j1 L 0 its H) b:=by
  intro b hb
  refine jq rfl fun j it' hj hd=> ?_
  obtain⟨q,hq⟩:=hd
  simp only[Nat.zero_add]
  by_cases hji:j=i
  ·subst hji;simp[hi]
  ·have key:∀h,False:=fun(h:L j=true/\¬j<i\/L j=false/\j<i)=>by
    obtain⟨_,_,t',_,h2,h3⟩:=other j it' hj hji h
    exact h3.2.1 b (by rw[h2,hq];rfl) hb
   cases hLj:L j with
   |true=>
    by_cases hlt:j<i
    ·simp[hlt]
    ·exact(key (.inl ⟨hLj,hlt⟩)).elim
   |false=>
    by_cases hlt:j<i
    ·exact(key (.inr ⟨hLj,hlt⟩)).elim
    ·simp[hlt]
 have hY:∃S,vg P (nx+i) (j8 L 0 its fr) (j1 L 0 its H) g it.r it.u S:=by
  refine⟨t.1, ?_⟩
  have hgF:∀A B A' B':Prop,(A->A')->(B->B')->dj (j8 (fun j=>decide (j<i)) 0 its fr) g.guard A B->dj (j8 L 0 its fr) g.guard A' B':=by
   intro A B A' B' ha hb h
   have h':=dj.mono h ha hb
   unfold dj at h' ⊢
   cases hgg:g.guard with
   |none=>rw[hgg] at h';exact h'
   |some p=>
    obtain⟨d,want⟩:=p
    rw[hgg] at h'
    simp only at h' ⊢
    rw[<-hFts d (by simp[iY.ts,hgg])]
    exact h'
  rcases e6 with h1|⟨h1,h2,h3,_⟩
  ·refine hgF _ _ _ _ (fun _=> ?_) (fun h=>h) e4
   exact B2 (fun t ht=>hFts t (by simp only[iY.ts,List.mem_append];exact .inr ht)) h1 hHids
  ·exact hgF _ _ _ _ (fun h=>h.elim) (fun _=>⟨h2,h1⟩) h3
 refine⟨g,it,hg,e1,e3.trans hd,hl,hdst,hY,hgd,fun tt=> ?_,fun b=> ?_⟩
 ·by_cases htt:it.dst=some tt
  ·rw[htt,nS]
   refine(K5 htt e1 (by simp) fun j it' hij hj hd'=> ?_).symm
   simp only[Nat.zero_add,Bool.or_eq_false_iff,beq_eq_false_iff_ne,ne_eq]
   refine⟨?_,by omega⟩
   cases hLj:L j with
   |false=>rfl
   |true=>exact absurd htt ((other j it' hj (by omega) (.inl ⟨hLj,by omega⟩)).2.1 tt hd')
  ·rw[sL htt]
   refine jo rfl fun j it' hj hd'=> ?_
   simp only[Nat.zero_add]
   by_cases hji:j=i
   ·subst hji;rw[e1] at hj;cases hj;exact absurd hd' htt
   ·simp[hji]
 ·by_cases hb:∃q,it.u=some (b,q)
  ·obtain⟨q,hq⟩:=hb
   rw[hq,nT]
   refine(K6 hq e1 (by simp) fun j it' hij hj hd'=> ?_).symm
   simp only[Nat.zero_add,Bool.or_eq_false_iff,beq_eq_false_iff_ne,ne_eq]
   refine⟨?_,by omega⟩
   cases hLj:L j with
   |false=>rfl
   |true=>
    exfalso
    obtain⟨q',hq'⟩:=hd'
    obtain⟨_,_,t',_,h2,h3⟩:=other j it' hj (by omega) (.inl ⟨hLj,by omega⟩)
    exact h3.2.2 b ⟨by rw[e5,hq];rfl,by rw[h2,hq'];rfl⟩
  ·rw[sM fun k hk=>hb ⟨k,hk⟩]
   refine jq rfl fun j it' hj hd'=> ?_
   simp only[Nat.zero_add]
   by_cases hji:j=i
   ·subst hji;rw[e1] at hj;cases hj;exact absurd hd' hb
   ·simp[hji]
theorem O8 {id:Nat} {fr:Fr} {H:Hp} {op:df} {r:AV} {u:Option (Nat×fH)} {S:List Nat} (h:gB P id fr H op r u S):yl P id fr H op (fun r' H'=>r'=r/\H'=dS H u):=by
 by_cases hc:∃f as,op= .call f as
 ·obtain⟨f,as,rfl⟩:=hc
  simp only[gB,pk] at h
  simp only[yl]
  split at h
  ·rename_i g first caps he
   rw[he]
   simp only[yf]
   exact h.1 H fun _ _=>rfl
  ·exact h.elim
 ·have e:gB P id fr H op r u S=(cM id fr H op=some (r,u)/\S=eo fr op):=by cases op<;>first|rfl|exact absurd ⟨_,_,rfl⟩ hc
  rw[e] at h
  have e2:yl P id fr H op (fun r' H'=>r'=r/\H'=dS H u)=ng (cM id fr H op) fun p=>p.1=r/\dS H p.2=dS H u:=by cases op<;>first|rfl|exact absurd ⟨_,_,rfl⟩ hc
  rw[e2,h.1]
  exact⟨rfl,rfl⟩
def B6 (w0:World) (M0:Nat->Prop) (c0:Cx) (lo n:Nat) (fr:Fr) (H:Hp) (nx:Nat) (L:Nat->Bool) (a:Act) (w:World):Prop:=
 a.tmps.size=n/\a.defers=[]/\∃ρ U,(∀b,U b->b<nx\/∃j,L j=true/\b=nx+j)/\dy w0 ⟨ρ,bt H,U,w,M0⟩/\FR ⟨ρ,bt H,U,w,M0⟩ fr a.tmps/\nD c0 lo ⟨ρ,bt H,U,w,M0⟩
theorem jf {listed:Array Bool} {i k:Nat} (hi:i<listed.size):fk (listed.setIfInBounds i true) k=(fk listed k||k==i):=by
 unfold fk
 by_cases h:k=i
 ·subst h;simp[Array.getD,hi]
 ·have:(k==i)=false:=by simpa using h
  simp[this,Ne.symm h]
def left (ops:Array Oper) (listed:Array Bool):Nat:=((List.range ops.size).filter fun k=> !fk listed k).length
theorem u7 {listed:Array Bool} {i:Nat} (hs:listed.size=ops.size) (hlt:i<ops.size) (hl:fk listed i=false):left ops (listed.setIfInBounds i true)+1=left ops listed:=by
 unfold left
 have hmem:i∈(List.range ops.size).filter fun k=> !fk listed k:=by simp[hlt,hl]
 have e:((List.range ops.size).filter fun k=> !fk (listed.setIfInBounds i true) k)=((List.range ops.size).filter fun k=> !fk listed k).filter (fun k=>k != i):=by
  rw[List.filter_filter]
  refine List.filter_congr fun k _=> ?_
  rw[jf (by omega)]
  cases fk listed k<;>simp[bne]
 rw[e]
 have hnd:((List.range ops.size).filter fun k=> !fk listed k).Nodup:=List.Pairwise.filter _ List.nodup_range
 have:∀(l:List Nat),l.Nodup->i∈l->(l.filter fun k=>k != i).length+1=l.length:=by
  intro l
  induction l with
  |nil=>intro _ h;cases h
  |cons x l ihl=>
   intro hnd hm
   rw[List.nodup_cons] at hnd
   by_cases hx:x=i
   ·subst hx
    have:(l.filter fun k=>k != x)=l:=by
     rw[List.filter_eq_self]
     intro y hy
     simp only[bne_iff_ne,ne_eq]
     rintro rfl
     exact hnd.1 hy
    simp[this]
   ·have hm':i∈l:=by
     rcases List.mem_cons.1 hm with h|h
     ·exact absurd h.symm hx
     ·exact h
    have:=ihl hnd.2 hm'
    simp[hx]
    exact this
 exact this _ hnd hmem
theorem gJ {listed:Array Bool} {i:Nat} (hs:listed.size=ops.size):i∈Region.ready .any ops listed↔fk listed i=false/\i<ops.size/\∀p∈jG ops i,fk listed p=true:=by
 rw[mem_ready]
 constructor
 ·rintro⟨h1,o,ho,h2⟩
  have hlt:=(Array.getElem?_eq_some_iff.1 ho).1
  refine⟨?_,hlt,fun p hp=> ?_⟩
  ·unfold fk;have:i<listed.size:=by omega
   simpa[Array.getD,this] using h1
  ·simp only[jG,ho,List.mem_filterMap] at hp
   obtain⟨e,he,hp⟩:=hp
   split at hp
   ·rename_i hb;simp at hp;subst hp;exact h2 e (by simpa using he) hb
   ·simp at hp
 ·rintro⟨h1,hlt,h2⟩
  refine⟨?_,ops[i],Array.getElem?_eq_getElem hlt,fun e he hb=> ?_⟩
  ·unfold fk at h1;have:i<listed.size:=by omega
   simpa[Array.getD,this] using h1
  ·refine h2 e.on ?_
   simp only[jG,Array.getElem?_eq_getElem hlt,List.mem_filterMap]
   exact⟨e,by simpa using he,by simp[hb]⟩
theorem SZ.any (R:SZ P n ops l0 gs its tl fr H nx) {Q:Exit->Act->World->Prop} (hcut:l0+gs.length=ops.size\/cutAt (je ops) ops.size (l0+gs.length)=true) (hQ:∀fuel listed a w,listed.size=ops.size->left ops listed=fuel->(∀k,fk listed k=decide (k<l0+gs.length))->B6 w0 M0 c0 lo n (j8 (fun _=>true) 0 its fr) (j1 (fun _=>true) 0 its H) nx (fun k=>decide (k<gs.length)) a w->wpAny P .any ops Q fuel listed a w):
 ∀(fuel:Nat) (listed:Array Bool) (a:Act) (w:World),listed.size=ops.size->left ops listed=fuel->(∀k,fk listed k=true->∀p∈jG ops k,fk listed p=true)->(∀k,k<l0->fk listed k=true)->(∀k,l0+gs.length<=k->fk listed k=false)->
  B6 w0 M0 c0 lo n (j8 (fun k=>fk listed (l0+k)) 0 its fr) (j1 (fun k=>fk listed (l0+k)) 0 its H) nx (fun k=>fk listed (l0+k)) a w->wpAny P .any ops Q fuel listed a w:=by
 have hA:=oC R.back
 have done:∀{listed:Array Bool} {a:Act} {w:World},listed.size=ops.size->(∀k,k<l0+gs.length->fk listed k=true)->(∀k,l0+gs.length<=k->fk listed k=false)->B6 w0 M0 c0 lo n (j8 (fun k=>fk listed (l0+k)) 0 its fr) (j1 (fun k=>fk listed (l0+k)) 0 its H) nx (fun k=>fk listed (l0+k)) a w->wpAny P .any ops Q (left ops listed) listed a w:=by
  intro listed a w hs hall hno hh
  have e1:∀t,cq (j8 (fun k=>fk listed (l0+k)) 0 its fr) t=cq (j8 (fun _=>true) 0 its fr) t:=fun t=>jo rfl fun j it hj _=>by
   have h1:=(List.getElem?_eq_some_iff.1 hj).1
   have h2:=R.il
   simpa using hall (l0+j) (by omega)
  have e2:bt (j1 (fun k=>fk listed (l0+k)) 0 its H)=bt (j1 (fun _=>true) 0 its H):=by
   funext b
   exact jq rfl fun j it hj _=>by
    have h1:=(List.getElem?_eq_some_iff.1 hj).1
    have h2:=R.il
    simpa using hall (l0+j) (by omega)
  obtain⟨h1,h2,ρ,U,hU,hS,hF,hT⟩:=hh
  refine hQ _ listed a w hs rfl (fun k=> ?_) ⟨h1,h2,ρ,U,fun b hb=> ?_,by rw[<-e2];exact hS,fun t=>by rw[<-e2,<-e1];exact hF t,by rw[<-e2];exact hT⟩
  ·by_cases hk:k<l0+gs.length
   ·simp[hall k hk,hk]
   ·rw[hno k (by omega)];simp[hk]
  ·rcases hU b hb with h|⟨j,hj,rfl⟩
   ·exact .inl h
   ·refine .inr ⟨j, ?_,rfl⟩
    by_cases hk:j<gs.length
    ·simpa using hk
    ·have hj:fk listed (l0+j)=true:=hj
     rw[hno (l0+j) (by omega)] at hj;cases hj
 intro fuel
 induction fuel with
 |zero=>
  intro listed a w hs hf hdc hlow hno hh
  have hall:∀k,k<l0+gs.length->fk listed k=true:=by
   intro k hk
   have hnil:=List.eq_nil_of_length_eq_zero hf
   cases hl:fk listed k with
   |true=>rfl
   |false=>
    have:k∈(List.range ops.size).filter fun k=> !fk listed k:=by have:=R.len;simp[hl];omega
    rw[hnil] at this;cases this
  have:=done hs hall hno hh
  rw[hf] at this
  exact this
 |succ fuel ih=>
  intro listed a w hs hf hdc hlow hno hh
  by_cases hall:∀k,k<l0+gs.length->fk listed k=true
  ·have:=done hs hall hno hh
   rw[hf] at this
   exact this
  -- some of the stretch is still to come, and only of it
  have hin:∀i,i∈Region.ready .any ops listed->l0<=i/\i<l0+gs.length:=by
   intro i hi
   obtain⟨hl,hlt,hp⟩:=(gJ hs).1 hi
   refine⟨?_, ?_⟩
   ·rcases Nat.lt_or_ge i l0 with h|h
    ·rw[hlow i h] at hl;cases hl
    ·exact h
   ·rcases Nat.lt_or_ge i (l0+gs.length) with h|h
    ·exact h
    ·exfalso
     rcases hcut with hc|hc
     ·omega
     ·refine hall fun k hk=> ?_
      exact(hA _ _ (pI hc hk h hlt)).2 (fk listed) hdc hp
  refine⟨fun hnil=> ?_,fun i hi=> ?_⟩
  ·exfalso
   refine hall fun k hk=> ?_
   induction k using Nat.strongRecOn with
   |_ k ihk=>
    cases hl:fk listed k with
    |true=>rfl
    |false=>
     have hlen:=R.len
     have:k∈Region.ready .any ops listed:=(gJ hs).2 ⟨hl,by omega,fun p hp=>ihk p (R.back k p hp) (by have:=R.back k p hp;omega)⟩
     rw[hnil] at this;cases this
  ·obtain⟨hl,hlt,hp⟩:=(gJ hs).1 hi
   obtain⟨hge,hlt2⟩:=hin i hi
   obtain⟨i',rfl⟩:∃i',i=l0+i':=⟨i - l0,by omega⟩
   have ho:ops[l0+i']?=some ops[l0+i']:=Array.getElem?_eq_getElem hlt
   obtain⟨g,it,hg,hit,hd,hlo,hdst,⟨S,hY⟩,hgd,hF',hH'⟩:=R.step (Lg:=fk listed) hdc (by omega) ho hl hp rfl
   obtain⟨hn,hde,ρ,U,hU,hS,hF,hT⟩:=hh
   have hid:¬U (nx+i'):=fun h=>by
    rcases hU _ h with h|⟨j,hj,he⟩
    ·omega
    ·have:j=i':=by omega
     subst this
     have hj:fk listed (l0+j)=true:=hj
     rw[hl] at hj;cases hj
   have hset:∀k,fk (listed.setIfInBounds (l0+i') true) (l0+k)=(fk listed (l0+k)||k==i'):=by
    intro k
    rw[jf (by omega)]
    congr 1
    by_cases hk:k=i'
    ·subst hk;simp
    ·have h1:(k==i')=false:=by simpa using hk
     have h2:(l0+k==l0+i')=false:=by simp;omega
     rw[h1,h2]
   have hH'':bt (dS (j1 (fun k=>fk listed (l0+k)) 0 its H) it.u)=bt (j1 (fun k=>fk (listed.setIfInBounds (l0+i') true) (l0+k)) 0 its H):=by
    funext b
    rw[hH' b]
    exact jq rfl fun j _ _ _=>by rw[hset]
   have hF'':∀t,cq (gR (j8 (fun k=>fk listed (l0+k)) 0 its fr) ops[l0+i'].dst it.r) t=cq (j8 (fun k=>fk (listed.setIfInBounds (l0+i') true) (l0+k)) 0 its fr) t:=by
    intro t
    rw[<-hd,hF' t]
    exact jo rfl fun j _ _ _=>by rw[hset]
   have nextOne:∀{v:Value} {ρ':Nat->Option (Nat×Nat×Nat)} {w':World},dy w0 (j6 ⟨ρ,bt (j1 (fun k=>fk listed (l0+k)) 0 its H),U,w,M0⟩ (nx+i') ρ' (bt (dS (j1 (fun k=>fk listed (l0+k)) 0 its H) it.u)) w')->Cx.le ⟨ρ,bt (j1 (fun k=>fk listed (l0+k)) 0 its H),U,w,M0⟩ (j6 ⟨ρ,bt (j1 (fun k=>fk listed (l0+k)) 0 its H),U,w,M0⟩ (nx+i') ρ' (bt (dS (j1 (fun k=>fk listed (l0+k)) 0 its H) it.u)) w')->
    VR (j6 ⟨ρ,bt (j1 (fun k=>fk listed (l0+k)) 0 its H),U,w,M0⟩ (nx+i') ρ' (bt (dS (j1 (fun k=>fk listed (l0+k)) 0 its H) it.u)) w') it.r v->wpAny P .any ops Q fuel (listed.setIfInBounds (l0+i') true) (a.put ops[l0+i'].dst v) w':=by
    intro v ρ' w' s1 s2 s3
    refine ih _ _ _ (by simpa using hs) ?_ (fun k hk p hp'=> ?_) (fun k hk=> ?_) (fun k hk=> ?_) ?_
    ·have:=u7 hs hlt hl;omega
    ·rw[jf (by omega)] at hk ⊢
     simp only[Bool.or_eq_true,beq_iff_eq] at hk ⊢
     rcases hk with hk|rfl
     ·exact .inl (hdc k hk p hp')
     ·exact .inl (hp p hp')
    ·rw[jf (by omega),hlow k hk];rfl
    ·rw[jf (by omega),hno k hk]
     simp;omega
    ·obtain⟨q1,q2⟩:=dL a ops[l0+i'].dst v
     have hfr:=hF.put s2 s3 (d:=ops[l0+i'].dst) (fun x hx=>by rw[hn];exact hdst x hx)
     refine⟨q1.trans hn,q2.trans hde,ρ',fun x=>U x\/x=nx+i',fun b hb=> ?_,by rw[<-hH''];exact s1,fun t=> ?_,by rw[<-hH''];exact hT.to s2⟩
     ·rcases hb with hb|rfl
      ·rcases hU b hb with h|⟨j,hj,rfl⟩
       ·exact .inl h
       ·exact .inr ⟨j,(hset j).trans (by rw[show fk listed (l0+j)=true from hj];rfl),rfl⟩
      ·exact .inr ⟨i',(hset i').trans (by simp),rfl⟩
     ·rw[<-hH'',<-hF'' t]
      exact hfr t
   unfold wpOp
   rw[ho]
   simp only
   have hgc:=nX (c:=⟨ρ,bt (j1 (fun k=>fk listed (l0+k)) 0 its H),U,w,M0⟩) hF hgd hY
   rcases hgc with⟨hw,hy⟩|⟨hw,hr,hu⟩
   ·rw[if_pos hw]
    refine .inl (RM (c:=⟨ρ,bt (j1 (fun k=>fk listed (l0+k)) 0 its H),U,w,M0⟩) hlo hS rfl hF hid (O8 hy) ?_)
    rintro v r' H'' ρ' w' ⟨rfl,rfl⟩ s1 s2 s3
    exact nextOne s1 s2 s3
   ·rw[if_neg (by simp[hw])]
    obtain⟨s1,s2⟩:=hS.used (U:=fun x=>U x\/x=nx+i') fun _ h=> .inl h
    refine nextOne (v:=undef) (ρ':=ρ) (w':=w) ?_ ?_ ?_
    ·rw[hu];exact s1
    ·rw[hu];exact s2
    ·rw[hr,VR]
def jJ (P:Program):Nat->List tS->Fr->Hp->(Fr->Hp->Nat->Prop)->Prop
 |nx,[],fr,H,K=>K fr H nx
 |nx,s::rest,fr,H,K=>match s.ops with
  |[g]=>dj fr g.guard (eL P nx fr H g.op fun r H' nx'=>jJ P nx' rest (gR fr g.dst r) H' K) (jJ P (nx+1) rest (gR fr g.dst (.sc undef)) H K)
  |gs=>jc P nx gs fr H [] fun fr' H' tr=>j5 tr s.ps/\jJ P (nx+gs.length) rest fr' H' K
theorem nj (h1:mn P n ops ops.toList=some gs) (hb:∀k,∀p∈jG ops k,p<k) {K:Fr->Hp->Nat->Prop} {Q:Exit->Act->World->Prop}
 (hQ:∀fr H nx a w,K fr H nx->Holds w0 M0 c0 lo n fr H nx a w->Q .normal a w):∀(cs:List Nat) (l0:Nat) (segs:List tS),vH (je ops) ops.size gs l0 cs=some segs->
 ∀(fuel nx:Nat) (fr:Fr) (H:Hp) (listed:Array Bool) (a:Act) (w:World),jJ P nx segs fr H K->listed.size=ops.size->left ops listed=fuel->(∀k,fk listed k=decide (k<l0))->Holds w0 M0 c0 lo n fr H nx a w->wpAny P .any ops Q fuel listed a w
 |[],l0,segs,h,fuel,nx,fr,H,listed,a,w,hr,hs,hf,hl,hh=>by
  simp only[vH,Option.ite_none_right_eq_some,Option.some.injEq] at h
  obtain⟨rfl,rfl⟩:=h
  have h0:left ops listed=0:=by
   unfold left
   rw[List.length_eq_zero_iff,List.filter_eq_nil_iff]
   intro k hk
   simp at hk
   simp[hl,hk]
  rw[h0] at hf
  subst hf
  refine⟨?_,hQ _ _ _ _ _ hr hh⟩
  cases hrd:Region.ready .any ops listed with
  |nil=>rfl
  |cons i l=>
   have:i∈Region.ready .any ops listed:=by rw[hrd];simp
   obtain⟨h1,h2,_⟩:=(gJ hs).1 this
   rw[hl] at h1
   simp at h1;omega
 |c::cs,l0,segs,h,fuel,nx,fr,H,listed,a,w,hr,hs,hf,hl,hh=>by
  obtain⟨g1,g2⟩:=rZ h1
  simp only[Array.length_toList] at g1
  simp only[vH,Option.ite_none_right_eq_some,Option.map_eq_some_iff,Bool.and_eq_true,decide_eq_true_eq,List.all_eq_true,List.mem_filter,Bool.not_eq_true',and_imp,Prod.forall] at h
  obtain⟨⟨⟨⟨hc1,hc2⟩,hcut⟩,hfree⟩,segs',hseg,rfl⟩:=h
  have hwl:((gs.drop l0).take (c - l0)).length=c - l0:=by simp;omega
  generalize hws:(gs.drop l0).take (c - l0)=ws at hr hfree hwl
  have hlow:∀(k:Nat) (o:Oper),k<ws.length->ops[l0+k]?=some o->∃g:iY,ws[k]?=some g/\mq P o=some g.op/\g.dst=o.dst/\(∀x,o.dst=some x->x<n)/\
   (match o.guard with|none=>g.guard=none|some (j,want)=>∃d,(ops[j]?).bind (·.dst)=some d/\g.guard=some (d,want)):=by
   intro k o hk ho
   obtain⟨g,q1,q2⟩:=g2 (l0+k) o (by simpa using ho)
   refine⟨g, ?_,q2⟩
   rw[<-hws,List.getElem?_take,if_pos (by omega),List.getElem?_drop]
   exact q1
  have hnext:∀(k:Nat),decide (k<l0+ws.length)=decide (k<c):=fun k=>by rw[hwl,show l0+(c - l0)=c by omega]
  have hA:=oC hb
  by_cases hsing:∃g,ws=[g]
  · -- one operation by itself
   obtain⟨g,hgs⟩:=hsing
   simp only[jJ,hgs] at hr
   have hw1:ws.length=1:=by rw[hgs];rfl
   have hlt:l0<ops.size:=by omega
   have ho:ops[l0]?=some ops[l0]:=Array.getElem?_eq_getElem hlt
   obtain⟨g',q1,q2,q3,q4,q5⟩:=hlow 0 _ (by omega) ho
   rw[hgs] at q1
   simp only[List.getElem?_cons_zero,Option.some.injEq] at q1
   subst q1
   have hl0:fk listed l0=false:=by rw[hl];simp
   have hrd:∀i,i∈Region.ready .any ops listed->i=l0:=by
    intro i hi
    obtain⟨h1,h2,h3⟩:=(gJ hs).1 hi
    rw[hl] at h1
    simp at h1
    rcases Nat.lt_or_ge i c with hlt|hge
    ·omega
    ·exfalso
     have:=(hA _ _ (pI hcut (show l0<c by omega) hge h2)).2 (fk listed) (fun k hk p hp=>by
      rw[hl] at hk ⊢
      have:=hb k p hp
      simp at hk ⊢;omega) h3
     rw[hl0] at this;cases this
   have hrdy:l0∈Region.ready .any ops listed:=(gJ hs).2 ⟨hl0,hlt,fun p hp=>by rw[hl];have:=hb l0 p hp;simpa using this⟩
   obtain⟨hn,hde,ρ,U,hU,hS,hF,hT⟩:=hh
   have hls:=u7 hs hlt hl0
   cases fuel with
   |zero=>omega
   |succ fuel=>
    refine⟨fun hnil=>(by rw[hnil] at hrdy;cases hrdy),fun i hi=> ?_⟩
    have:=hrd i hi
    subst this
    have hset:∀k,fk (listed.setIfInBounds i true) k=decide (k<c):=by
     intro k
     rw[jf (by omega),hl]
     by_cases hk:k=i
     ·subst hk;simp;omega
     ·have:(k==i)=false:=by simpa using hk
      rw[this,Bool.or_false]
      congr 1
      apply propext
      omega
    unfold wpOp
    rw[ho]
    simp only
    have hgc:=nX (c:=⟨ρ,bt H,U,w,M0⟩) hF q5 hr
    rcases hgc with⟨hw,hy⟩|⟨hw,hy⟩
    ·rw[if_pos hw]
     refine .inl (vN (c:=⟨ρ,bt H,U,w,M0⟩) q2 hS rfl hF hU hy ?_)
     intro v r' H' nx' ρ' U' w' hR s0 s1 s2 s3
     refine nj h1 hb hQ cs c segs' hseg fuel nx' _ _ _ _ _ hR (by simpa using hs) (by omega) hset ?_
     rw[q3]
     exact Holds.next (c:=⟨ρ,bt H,U,w,M0⟩) hn hde s0 hF hT s1 s2 s3 q4
    ·rw[if_neg (by simp[hw])]
     refine nj h1 hb hQ cs c segs' hseg fuel (nx+1) _ _ _ _ _ hy (by simpa using hs) (by omega) hset ?_
     rw[q3]
     exact Holds.next (c:=⟨ρ,bt H,U,w,M0⟩) hn hde (fun b hb=>by have:=hU b hb;omega) hF hT hS (Cx.le.refl _) (by rw[VR]) q4
  · -- a stretch
   have hr:jc P nx ws fr H [] fun fr' H' tr=>j5 tr ((List.filter (fun p=>((ws.getD p.1 default).op.wr&&(ws.getD p.2 default).op.rd)||((ws.getD p.1 default).op.rd&&(ws.getD p.2 default).op.wr)) ((oV ws.length).filter fun p=> !eQ (je ops) (l0+p.1) (l0+p.2))))/\jJ P (nx+ws.length) segs' fr' H' K:=by
    simp only[jJ] at hr
    split at hr
    ·exact absurd ⟨_,rfl⟩ hsing
    ·exact hr
   obtain⟨its,tl,l1,l2,⟨hfar,hK⟩,hall⟩:=BD hr
   simp only[List.nil_append] at hfar
   have R:SZ P n ops l0 ws its tl fr H nx:=by
    refine⟨by omega,hlow,l1,hall,hb,fun i j hij hj hbw=>hfree i j (kd.2 ⟨hij,by omega⟩) hbw,fun i j hij hj hbw hw=>hfar (i,j) ?_⟩
    simp only[List.mem_filter,Bool.not_eq_true']
    refine⟨⟨kd.2 ⟨hij,by omega⟩,hbw⟩,hw⟩
   obtain⟨hn,hde,ρ,U,hU,hS,hF,hT⟩:=hh
   refine R.any (w0:=w0) (M0:=M0) (c0:=c0) (lo:=lo) (.inr (by rw[hwl,show l0+(c - l0)=c by omega];exact hcut)) (fun fuel' listed' a' w' hs' hf' hl' hh'=> ?_) fuel listed a w hs hf (fun k hk p hp=> ?_) (fun k hk=>by rw[hl];simpa using hk) (fun k hk=>by rw[hl];simp;omega) ?_
   ·obtain⟨p1,p2,ρ',U',hU',hS',hF',hT'⟩:=hh'
    refine nj h1 hb hQ cs c segs' hseg fuel' (nx+ws.length) _ _ listed' a' w' hK hs' hf' (fun k=>by rw[hl',hnext]) ⟨p1,p2,ρ',U',fun b hb=> ?_,hS',hF',hT'⟩
    rcases hU' b hb with h|⟨j,hj,rfl⟩
    ·omega
    ·simp at hj;omega
   ·rw[hl] at hk ⊢
    have:=hb k p hp
    simp at hk ⊢;omega
   ·have e0:(fun k=>fk listed (l0+k))=fun _=>false:=by
     funext k
     rw[hl];simp
    rw[e0,ta,tc]
    exact⟨hn,hde,ρ,U,fun b hb=> .inl (hU b hb),hS,hF,hT⟩
theorem WL.drawn {segs:List tS} {Q:QT} (h:jJ P nx segs fr H (fun fr' H' nx'=>Q .normal fr' H' nx')):WL P n lo (.drawn segs) fr H nx Q:=by
 intro code hc w0 M0 c0 a w hh
 have:∃id ops gs,code= .region id ops true/\mn P n ops ops.toList=some gs/\uE ops gs=some segs/\P.follows .mixedOrders=true:=by
  cases code<;>simp only[dD] at hc
  case region id ops draw=>
   split at hc
   ·rename_i gs' h1
    cases draw with
    |false=>simp at hc
    |true=>
     simp only[if_true,Option.ite_none_right_eq_some,Option.map_eq_some_iff,LC.drawn.injEq] at hc
     obtain⟨hm,ps',h2,rfl⟩:=hc
     exact⟨id,ops,gs',rfl,h1,h2,hm⟩
   ·simp at hc
  all_goals (exfalso;repeat' (split at hc))<;>simp at hc
 obtain⟨id,ops,gs,rfl,h1,h2,hm⟩:=this
 unfold uE at h2
 simp only[Option.ite_none_right_eq_some,List.all_eq_true,List.mem_range,decide_eq_true_eq] at h2
 obtain⟨hb,hseg⟩:=h2
 have hb':∀k,∀p∈jG ops k,p<k:=by
  intro k p hp
  by_cases hk:k<ops.size
  ·exact hb k hk p hp
  ·simp[jG,Array.getElem?_eq_none (Nat.le_of_not_lt hk)] at hp
 refine wp_region_any hm ?_
 obtain⟨hn,hd,ρ,U,hU,hS,hF,hT⟩:=hh
 have hbl:Below w.heap.size w { w with drawn:=w.drawn+1 }:=⟨rfl,rfl,rfl,Nat.le_refl _,fun _ _=>rfl⟩
 obtain⟨s1,s2⟩:=hS.world (w':={ w with drawn:=w.drawn+1 }) hbl
 have e0:∀k,fk (Array.replicate ops.size false) k=false:=by
  intro k
  unfold fk
  by_cases hk:k<ops.size<;>simp[Array.getD,hk]
 refine nj h1 hb' (K:=fun fr H nx=>Q .normal fr H nx) (w0:=w0) (M0:=M0) (c0:=c0) (lo:=lo) (fun fr' H' nx' a' w' hK hh'=>⟨.normal,fr',H',nx',rfl,hK,hh'⟩) _ 0 segs hseg ops.size nx fr H _ a _ h (by simp) ?_ (fun k=>by rw[e0];simp) ?_
 ·unfold left
  rw[List.filter_eq_self.2 (by simp[e0])];simp
 ·exact⟨hn,hd,ρ,U,hU,s1,fun t=>VR.cc s2 (hF t),hT.to s2⟩
end
end
end Go.cw
