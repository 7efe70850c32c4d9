import Derived.Test.YtjopoheligmmoaaGreatDoorM19
namespace Go.cu
open Go.RowKit
set_option linter.unusedSimpArgs false
set_option linter.unusedVariables false
def N8 (f:AV->AV) (G:Hp):AV->AV
 | .sl b len=>match bu G b with
  |some (.row _ sz _ es)=>if es.length=len then .im sz .any (es.map f) else .sl b len
  |none=> .sl b len
 | .agg cs=> .agg (cs.map f)
 | .dD cs=> .dD (cs.map f)
 |a=>a
def u0 (G:Hp):Nat->AV->AV
 |0,a=>a
 |k+1,a=>N8 (u0 G k) G a
theorem dW.u9 {c c2:Cx} (f:AV->AV) (h:∀a,dV c c2 a (f a)):∀l:List AV,dW c c2 l (l.map f)
 |[]=> .nil
 |a::l=> .cons (h a) (dW.u9 f h l)
theorem dV.TR {w0:World} {c c2:Cx} (hS:du w0 c) {b:Nat} {e:TypeId} {sz:Nat} {d:AV} {es es2:List AV} (d2:AV) (hw:c2.w=c.w) (hH:c.H b=some (.row e sz d es)) (hM:∀blk o z,c.ρ b=some (blk,o,z)->¬c2.M blk) (h:dW c c2 es es2):dV c c2 (.sl b es.length) (.im sz d2 es2):=by
 have hl:=h.length
 intro v hv
 rw[VR] at hv
 obtain⟨_,a,cap,rfl,hr⟩:=hv
 obtain⟨_,hr⟩:=hr _ _ _ _ hH
 obtain⟨_,hz,hrow⟩:=hS.jz b _ _ _ _ hH (uB (hr rfl))
 rw[VR]
 rcases hr rfl with⟨hρ,rfl,rfl⟩|⟨blk,o,z,hρ,rfl,hc1,_,_⟩
 ·rcases hrow with⟨_,rfl⟩|⟨_,_,_,hρ',_⟩
  ·have:es2=[]:=List.eq_nil_of_length_eq_zero (by simpa using hl.symm)
   subst this
   exact⟨none,0,rfl,by simp, .inl rfl⟩
  ·rw[hρ] at hρ';cases hρ'
 ·rcases hrow with⟨hρ',_⟩|⟨blk1,o1,z1,hρ1,_,_,_,hrow⟩
  ·rw[hρ] at hρ';cases hρ'
  ·rw[hρ] at hρ1;cases hρ1
   exact⟨_,cap,by rw[<-hl],by rw[<-hl];exact hc1, .inr ⟨blk,o,rfl,hz,hM _ _ _ hρ,h.row hw hrow⟩⟩
theorem dV.u0 {w0:World} {c c2:Cx} {G:Hp} (hS:du w0 c) (hw:c2.w=c.w) (hle:c.le c2) (hG:∀b q,bu G b=some q->c.H b=some q/\∀blk o z,c.ρ b=some (blk,o,z)->¬c2.M blk):∀(k:Nat) (a:AV),dV c c2 a (u0 G k a):=by
 intro k
 induction k with
 |zero=>intro a;rw[Go.cu.u0];exact dV.c8 hle a
 |succ k ih=>
  intro a
  cases a<;>rw[Go.cu.u0]<;>simp only[N8]<;>try exact dV.c8 hle _
  case sl b len=>
   cases hb:bu G b with
   |none=>simp only;exact dV.c8 hle _
   |some q=>
    obtain⟨e,sz,d,es⟩:=q
    simp only
    split
    ·rename_i hl
     obtain⟨g1,g2⟩:=hG b _ hb
     rw[<-hl]
     exact dV.TR hS .any hw g1 g2 (dW.u9 _ ih es)
    ·exact dV.c8 hle _
  case agg cs=>exact dV.agg (dW.u9 _ ih cs)
  case dD cs=>exact dV.dD (dW.u9 _ ih cs)
def mE (G H:Hp):Hp:=G.map (fun p=>(p.1,none))++H
theorem vc (H:Hp):mE [] H=H:=rfl
theorem la (b:Nat) (q:Option fC) (G H:Hp):mE ((b,q)::G) H=(b,none)::mE G H:=rfl
theorem ff {H:Hp} {b:Nat}:∀{G:Hp},b∈G.map (·.1)->bu (mE G H) b=none
 |(x,q)::G,h=>by
  rw[la]
  by_cases hb:b=x
  ·subst hb;exact cY _ _ _
  ·rw[cN hb]
   exact ff (by simpa[hb] using h)
theorem gA {H:Hp} {b:Nat}:∀{G:Hp},b∉G.map (·.1)->bu (mE G H) b=bu H b
 |[],_=>rfl
 |(x,q)::G,h=>by
  simp only[List.map_cons,List.mem_cons,not_or] at h
  rw[la,cN h.1,gA h.2]
theorem nW {b:Nat} {q:fC}:∀{G:Hp},bu G b=some q->b∈G.map (·.1)
 |(x,p)::G,h=>by
  by_cases hb:b=x
  ·simp[hb]
  ·rw[cN hb] at h
   simp only[List.map_cons,List.mem_cons]
   exact .inr (nW h)
theorem Wk.RE {r:AV} {H:Hp} {nx:Nat} (G:Hp) (k:Nat) (hG:∀b q,bu G b=some q->bu H b=some q):Wk r H nx (u0 G k r) (mE G H) nx:=by
 refine Wk.tell (Nat.le_refl _) (fun b e sz d es he=> ?_) (fun w0 c c2 hS hU hc hc2 hw hle hnew hM=>⟨?_,fun b e sz d es d0 es0 h1 h2=> ?_⟩)
 ·by_cases hb:b∈G.map (·.1)
  ·rw[ff hb] at he;cases he
  ·rw[gA hb] at he
   exact .inl ⟨d,es,he,rfl⟩
 ·refine dV.u0 hS hw hle (fun b q hq=> ?_) k r
  have h1:=hG b q hq
  exact⟨by rw[hc];exact h1,fun blk o z hρ=>hM b q blk o z h1 (ff (nW hq)) hρ⟩
 ·by_cases hb:b∈G.map (·.1)
  ·rw[ff hb] at h1;cases h1
  ·rw[gA hb] at h1
   rw[h1] at h2;cases h2
   exact dW.c8 hle _
theorem Wk.u0 {H:Hp} {nx cb:Nat} {e:TypeId} {sz:Nat} {d:AV} {es:List AV} (G:Hp) (k:Nat) (d2:AV) (hcb:bu H cb=some (.row e sz d es)) (hG:∀b q,bu G b=some q->bu H b=some q):Wk .any H nx .any (mE G ((cb,some (.row e sz d2 (es.map (u0 G k))))::H)) nx:=by
 refine Wk.tell (Nat.le_refl _) (fun b e' sz' d' es' he=> ?_) (fun w0 c c2 hS hU hc hc2 hw hle hnew hM=>⟨dV.any _ _ _,fun b e' sz' d' es' d0 es0 h1 h2=> ?_⟩)
 ·by_cases hb:b∈G.map (·.1)
  ·rw[ff hb] at he;cases he
  ·rw[gA hb] at he
   by_cases hbc:b=cb
   ·subst hbc
    rw[cY] at he
    cases he
    exact .inl ⟨d,es,hcb,by simp⟩
   ·rw[cN hbc] at he
    exact .inl ⟨d',es',he,rfl⟩
 ·by_cases hb:b∈G.map (·.1)
  ·rw[ff hb] at h1;cases h1
  ·rw[gA hb] at h1
   by_cases hbc:b=cb
   ·subst hbc
    rw[cY] at h1
    rw[hcb] at h2
    cases h1;cases h2
    exact dW.u9 _ (dV.u0 hS hw hle (fun b q hq=>by
     have h1:=hG b q hq
     exact⟨by rw[hc];exact h1,fun blk o z hρ=>hM b q blk o z h1 (ff (nW hq)) hρ⟩) k) _
   ·rw[cN hbc] at h1
    rw[h1] at h2;cases h2
    exact dW.c8 hle _
theorem BT {G:Hp} {k b len:Nat} {e:TypeId} {sz:Nat} {d:AV} {es:List AV} (h:bu G b=some (.row e sz d es)) (hl:es.length=len):u0 G (k+1) (.sl b len)= .im sz .any (es.map (u0 G k)):=by
 rw[u0,N8,h];simp only;rw[if_pos hl]
theorem p6 (G:Hp) (l:List AV):l.map (Go.cu.u0 G 0)=l:=by
 have e:u0 G 0=id:=by funext a;rfl
 rw[e,List.map_id]
structure xd (str:Bool) {κ:Type} [DecidableEq κ] (kf:κ->Value):Prop where
 eq:∀a b,BU str (kf a) (kf b)=some (decide (a=b))
theorem KR:xd false (fun n:Int=>Value.int .i64 n):=⟨fun a b=>by simp[BU]⟩
theorem wh:xd true (fun s:ByteArray=>Value.string s):=⟨fun a b=>by
 simp only[BU,Option.some.injEq]
 obtain⟨a⟩:=a
 obtain⟨b⟩:=b
 show(a==b)=_
 rw[Bool.eq_iff_iff]
 simp⟩
section
variable {κ β:Type} [DecidableEq κ]
def qn (kf:κ->Value) (vf:β->AV) (E:List (κ×β)):List AV:=E.map fun p=>nt (kf p.1) (vf p.2)
def fJ:List (κ×β)->κ->Option β
 |[],_=>none
 |p::E,k=>if k=p.1 then some p.2 else fJ E k
def j1:List (κ×β)->κ->β->List (κ×β)
 |[],k,v=>[(k,v)]
 |p::E,k,v=>if k=p.1 then(k,v)::E else p::j1 E k v
def NS:List (κ×β)->κ->List (κ×β)
 |[],_=>[]
 |p::E,k=>if k=p.1 then E else p::NS E k
theorem wy {str:Bool} {kf:κ->Value} (hk:xd str kf) (vf:β->AV) (k:κ) (v:β):∀(E:List (κ×β)) (i:Nat),
 (fA str (kf k) (qn kf vf E) i=some none/\fJ E k=none/\j1 E k v=E++[(k,v)]/\NS E k=E)\/
 ∃j v0,fA str (kf k) (qn kf vf E) i=some (some (i+j,vf v0))/\fJ E k=some v0/\j1 E k v=E.set j (k,v)/\NS E k=E.eraseIdx j
 |[],i=> .inl ⟨rfl,rfl,rfl,rfl⟩
 |p::E,i=>by
  have e:fA str (kf k) (qn kf vf (p::E)) i=if k=p.1 then some (some (i,vf p.2)) else fA str (kf k) (qn kf vf E) (i+1):=by
   simp only[qn,List.map_cons,fA,nt,sy,hk.eq]
   by_cases h:k=p.1<;>simp[h]
  rw[e,fJ,j1,NS]
  by_cases h:k=p.1
  ·simp only[h,if_true]
   exact .inr ⟨0,p.2,by simp,rfl,by simp,by simp⟩
  ·simp only[h,if_false]
   rcases wy hk vf k v E (i+1) with⟨h1,h2,h3,h4⟩|⟨j,v0,h1,h2,h3,h4⟩
   ·exact .inl ⟨h1,h2,by rw[h3];rfl,by rw[h4]⟩
   ·exact .inr ⟨j+1,v0,by rw[h1];congr 3;omega,h2,by rw[h3];rfl,by rw[h4];rfl⟩
theorem B4 {str:Bool} {kf:κ->Value} (hk:xd str kf) (vf:β->AV) (k:κ) (E:List (κ×β)) (z:AV):my str (kf k) (qn kf vf E) z=some ((fJ E k).elim z vf,(fJ E k).isSome):=by
 unfold my
 cases E with
 |nil=>rfl
 |cons p E=>
  rcases wy hk vf k p.2 (p::E) 0 with⟨h1,h2,_⟩|⟨j,v0,h1,h2,_⟩<;>rw[h1,h2]<;>rfl
theorem B5 {str:Bool} {kf:κ->Value} (hk:xd str kf) (vf:β->AV) (k:κ) (v:β) (E:List (κ×β)):pc str (kf k) (qn kf vf E) (vf v)=some (qn kf vf (j1 E k v)):=by
 unfold pc
 rcases wy hk vf k v E 0 with⟨h1,_,h3,_⟩|⟨j,v0,h1,_,h3,_⟩
 ·rw[h1,h3];simp[qn,nt]
 ·rw[h1,h3];simp only[qn,Nat.zero_add,List.map_set];rfl
theorem mq:∀(E:List (κ×β)) (k:κ) (v:β) (k':κ),fJ (j1 E k v) k'=if k'=k then some v else fJ E k'
 |[],k,v,k'=>by simp[j1,fJ]
 |p::E,k,v,k'=>by
  rw[j1]
  by_cases h:k=p.1
  ·rw[if_pos h]
   simp only[fJ]
   by_cases h2:k'=k
   ·simp[h2]
   ·have h3:¬k'=p.1:=fun e=>h2 (by rw[e,h])
    simp[h2,h3]
  ·rw[if_neg h]
   simp only[fJ]
   rw[mq E k v k']
   by_cases h2:k'=p.1
   ·have h3:¬k'=k:=fun e=>h (by rw[<-e,h2])
    simp only[h2,if_true,h3,if_false]
    rw[if_neg (fun e=>h e.symm)]
   ·simp[h2]
theorem qi:∀(E:List (κ×β)) (k:κ),fJ E k=none↔k∉E.map Prod.fst
 |[],k=>by simp[fJ]
 |p::E,k=>by
  rw[fJ]
  by_cases h:k=p.1
  ·simp[h]
  ·simp[h,qi E k]
end
end Go.cu
