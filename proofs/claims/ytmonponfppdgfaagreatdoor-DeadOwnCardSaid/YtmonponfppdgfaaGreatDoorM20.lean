import Derived.Test.YtmonponfppdgfaaGreatDoorM18
namespace Go.dD
open Go.RowKit
set_option linter.unusedSimpArgs false
set_option linter.unusedVariables false
def MI (f:AV->AV) (G:Hp):AV->AV
 | .sl b len=>match bk G b with
  |some (.row _ sz _ es)=>if es.length=len then .im sz .any (es.map f) else .sl b len
  |none=> .sl b len
 | .agg cs=> .agg (cs.map f)
 | .dK cs=> .dK (cs.map f)
 |a=>a
def qZ (G:Hp):Nat->AV->AV
 |0,a=>a
 |k+1,a=>MI (qZ G k) G a
theorem dI.IC {c c2:Cx} (f:AV->AV) (h:∀a,dk c c2 a (f a)):∀l:List AV,dI c c2 l (l.map f)
 |[]=> .nil
 |a::l=> .cons (h a) (dI.IC f h l)
theorem dk.PC {w0:World} {c c2:Cx} (hS:dO w0 c) {b:Nat} {e:TypeId} {sz:Nat} {d:AV} {es es2:List AV} (d2:AV) (hw:c2.w=c.w) (hH:c.H b=some (.row e sz d es)) (hM:∀blk o z,c.ρ b=some (blk,o,z)->¬c2.M blk) (h:dI c c2 es es2):dk c c2 (.sl b es.length) (.im sz d2 es2):=by
 have hl:=h.length
 intro v hv
 rw[VR] at hv
 obtain⟨_,a,cap,rfl,hr⟩:=hv
 obtain⟨_,hr⟩:=hr _ _ _ _ hH
 obtain⟨_,hz,hrow⟩:=hS.lz b _ _ _ _ hH (tN (hr rfl))
 rw[VR]
 rcases hr rfl with⟨hρ,rfl,rfl⟩|⟨blk,o,z,hρ,rfl,hc1,_,_⟩
 ·rcases hrow with⟨_,rfl⟩|⟨_,_,_,hρ',_⟩
  ·have:es2=[]:=List.eq_nil_of_length_eq_zero (by simpa using hl.symm)
   subst this
   exact⟨none,0,rfl,by simp, .inl rfl⟩
  ·rw[hρ] at hρ';cases hρ'
 ·rcases hrow with⟨hρ',_⟩|⟨blk1,o1,z1,hρ1,_,_,_,hrow⟩
  ·rw[hρ] at hρ';cases hρ'
  ·rw[hρ] at hρ1;cases hρ1
   exact⟨_,cap,by rw[<-hl],by rw[<-hl];exact hc1, .inr ⟨blk,o,rfl,hz,hM _ _ _ hρ,h.row hw hrow⟩⟩
theorem dk.qZ {w0:World} {c c2:Cx} {G:Hp} (hS:dO w0 c) (hw:c2.w=c.w) (hle:c.le c2) (hG:∀b q,bk G b=some q->c.H b=some q/\∀blk o z,c.ρ b=some (blk,o,z)->¬c2.M blk):∀(k:Nat) (a:AV),dk c c2 a (qZ G k a):=by
 intro k
 induction k with
 |zero=>intro a;rw[Go.dD.qZ];exact dk.cH hle a
 |succ k ih=>
  intro a
  cases a<;>rw[Go.dD.qZ]<;>simp only[MI]<;>try exact dk.cH hle _
  case sl b len=>
   cases hb:bk G b with
   |none=>simp only;exact dk.cH hle _
   |some q=>
    obtain⟨e,sz,d,es⟩:=q
    simp only
    split
    ·rename_i hl
     obtain⟨g1,g2⟩:=hG b _ hb
     rw[<-hl]
     exact dk.PC hS .any hw g1 g2 (dI.IC _ ih es)
    ·exact dk.cH hle _
  case agg cs=>exact dk.agg (dI.IC _ ih cs)
  case dK cs=>exact dk.dK (dI.IC _ ih cs)
def rk (G H:Hp):Hp:=G.map (fun p=>(p.1,none))++H
theorem uM (H:Hp):rk [] H=H:=rfl
theorem lR (b:Nat) (q:Option eO) (G H:Hp):rk ((b,q)::G) H=(b,none)::rk G H:=rfl
theorem jn {H:Hp} {b:Nat}:∀{G:Hp},b∈G.map (·.1)->bk (rk G H) b=none
 |(x,q)::G,h=>by
  rw[lR]
  by_cases hb:b=x
  ·subst hb;exact ch _ _ _
  ·rw[cQ hb]
   exact jn (by simpa[hb] using h)
theorem km {H:Hp} {b:Nat}:∀{G:Hp},b∉G.map (·.1)->bk (rk G H) b=bk H b
 |[],_=>rfl
 |(x,q)::G,h=>by
  simp only[List.map_cons,List.mem_cons,not_or] at h
  rw[lR,cQ h.1,km h.2]
theorem vG {b:Nat} {q:eO}:∀{G:Hp},bk G b=some q->b∈G.map (·.1)
 |(x,p)::G,h=>by
  by_cases hb:b=x
  ·simp[hb]
  ·rw[cQ hb] at h
   simp only[List.map_cons,List.mem_cons]
   exact .inr (vG h)
theorem Wk.N6 {r:AV} {H:Hp} {nx:Nat} (G:Hp) (k:Nat) (hG:∀b q,bk G b=some q->bk H b=some q):Wk r H nx (qZ G k r) (rk G H) nx:=by
 refine Wk.tell (Nat.le_refl _) (fun b e sz d es he=> ?_) (fun w0 c c2 hS hU hc hc2 hw hle hnew hM=>⟨?_,fun b e sz d es d0 es0 h1 h2=> ?_⟩)
 ·by_cases hb:b∈G.map (·.1)
  ·rw[jn hb] at he;cases he
  ·rw[km hb] at he
   exact .inl ⟨d,es,he,rfl⟩
 ·refine dk.qZ hS hw hle (fun b q hq=> ?_) k r
  have h1:=hG b q hq
  exact⟨by rw[hc];exact h1,fun blk o z hρ=>hM b q blk o z h1 (jn (vG hq)) hρ⟩
 ·by_cases hb:b∈G.map (·.1)
  ·rw[jn hb] at h1;cases h1
  ·rw[km hb] at h1
   rw[h1] at h2;cases h2
   exact dI.cH hle _
theorem Wk.qZ {H:Hp} {nx cb:Nat} {e:TypeId} {sz:Nat} {d:AV} {es:List AV} (G:Hp) (k:Nat) (d2:AV) (hcb:bk H cb=some (.row e sz d es)) (hG:∀b q,bk G b=some q->bk H b=some q):Wk .any H nx .any (rk G ((cb,some (.row e sz d2 (es.map (qZ G k))))::H)) nx:=by
 refine Wk.tell (Nat.le_refl _) (fun b e' sz' d' es' he=> ?_) (fun w0 c c2 hS hU hc hc2 hw hle hnew hM=>⟨dk.any _ _ _,fun b e' sz' d' es' d0 es0 h1 h2=> ?_⟩)
 ·by_cases hb:b∈G.map (·.1)
  ·rw[jn hb] at he;cases he
  ·rw[km hb] at he
   by_cases hbc:b=cb
   ·subst hbc
    rw[ch] at he
    cases he
    exact .inl ⟨d,es,hcb,by simp⟩
   ·rw[cQ hbc] at he
    exact .inl ⟨d',es',he,rfl⟩
 ·by_cases hb:b∈G.map (·.1)
  ·rw[jn hb] at h1;cases h1
  ·rw[km hb] at h1
   by_cases hbc:b=cb
   ·subst hbc
    rw[ch] at h1
    rw[hcb] at h2
    cases h1;cases h2
    exact dI.IC _ (dk.qZ hS hw hle (fun b q hq=>by
     have h1:=hG b q hq
     exact⟨by rw[hc];exact h1,fun blk o z hρ=>hM b q blk o z h1 (jn (vG hq)) hρ⟩) k) _
   ·rw[cQ hbc] at h1
    rw[h1] at h2;cases h2
    exact dI.cH hle _
theorem rv (G:Hp) (k:Nat) (v:Value):qZ G k (.sc v)= .sc v:=by cases k<;>rfl
theorem pU {G:Hp} {k b len:Nat} {e:TypeId} {sz:Nat} {d:AV} {es:List AV} (h:bk G b=some (.row e sz d es)) (hl:es.length=len):qZ G (k+1) (.sl b len)= .im sz .any (es.map (qZ G k)):=by
 rw[qZ,MI,h];simp only;rw[if_pos hl]
theorem wh (G:Hp) (l:List AV):l.map (Go.dD.qZ G 0)=l:=by
 have e:qZ G 0=id:=by funext a;rfl
 rw[e,List.map_id]
theorem nM {α γ:Type} (f:α->γ):∀(l:List α) (i:Nat),(l.map f).eraseIdx i=(l.eraseIdx i).map f
 |[],_=>rfl
 |a::l,0=>rfl
 |a::l,i+1=>by simp[nM f l i]
structure tQ (str:Bool) {κ:Type} [DecidableEq κ] (kf:κ->Value):Prop where
 eq:∀a b,LH str (kf a) (kf b)=some (decide (a=b))
theorem nj:tQ false (fun n:Int=>Value.int .i64 n):=⟨fun a b=>by simp[LH]⟩
theorem FP:tQ true (fun s:ByteArray=>Value.string s):=⟨fun a b=>by
 simp only[LH,Option.some.injEq]
 obtain⟨a⟩:=a
 obtain⟨b⟩:=b
 show(a==b)=_
 rw[Bool.eq_iff_iff]
 simp⟩
section
variable {κ β:Type} [DecidableEq κ]
def lu (kf:κ->Value) (vf:β->AV) (E:List (κ×β)):List AV:=E.map fun p=>yN (kf p.1) (vf p.2)
def cd:List (κ×β)->κ->Option β
 |[],_=>none
 |p::E,k=>if k=p.1 then some p.2 else cd E k
def gW:List (κ×β)->κ->β->List (κ×β)
 |[],k,v=>[(k,v)]
 |p::E,k,v=>if k=p.1 then(k,v)::E else p::gW E k v
def kh:List (κ×β)->κ->List (κ×β)
 |[],_=>[]
 |p::E,k=>if k=p.1 then E else p::kh E k
theorem qo {str:Bool} {kf:κ->Value} (hk:tQ str kf) (vf:β->AV) (k:κ) (v:β):∀(E:List (κ×β)) (i:Nat),
 (iV str (kf k) (lu kf vf E) i=some none/\cd E k=none/\gW E k v=E++[(k,v)]/\kh E k=E)\/
 ∃j v0,iV str (kf k) (lu kf vf E) i=some (some (i+j,vf v0))/\cd E k=some v0/\gW E k v=E.set j (k,v)/\kh E k=E.eraseIdx j
 |[],i=> .inl ⟨rfl,rfl,rfl,rfl⟩
 |p::E,i=>by
  have e:iV str (kf k) (lu kf vf (p::E)) i=if k=p.1 then some (some (i,vf p.2)) else iV str (kf k) (lu kf vf E) (i+1):=by
   simp only[lu,List.map_cons,iV,yN,J3,hk.eq]
   by_cases h:k=p.1<;>simp[h]
  rw[e,cd,gW,kh]
  by_cases h:k=p.1
  ·simp only[h,if_true]
   exact .inr ⟨0,p.2,by simp,rfl,by simp,by simp⟩
  ·simp only[h,if_false]
   rcases qo hk vf k v E (i+1) with⟨h1,h2,h3,h4⟩|⟨j,v0,h1,h2,h3,h4⟩
   ·exact .inl ⟨h1,h2,by rw[h3];rfl,by rw[h4]⟩
   ·exact .inr ⟨j+1,v0,by rw[h1];congr 3;omega,h2,by rw[h3];rfl,by rw[h4];rfl⟩
theorem vN {str:Bool} {kf:κ->Value} (hk:tQ str kf) (vf:β->AV) (k:κ) (E:List (κ×β)) (z:AV):q6 str (kf k) (lu kf vf E) z=some ((cd E k).elim z vf,(cd E k).isSome):=by
 unfold q6
 cases E with
 |nil=>rfl
 |cons p E=>
  rcases qo hk vf k p.2 (p::E) 0 with⟨h1,h2,_⟩|⟨j,v0,h1,h2,_⟩<;>rw[h1,h2]<;>rfl
theorem vO {str:Bool} {kf:κ->Value} (hk:tQ str kf) (vf:β->AV) (k:κ) (v:β) (E:List (κ×β)):tG str (kf k) (lu kf vf E) (vf v)=some (lu kf vf (gW E k v)):=by
 unfold tG
 rcases qo hk vf k v E 0 with⟨h1,_,h3,_⟩|⟨j,v0,h1,_,h3,_⟩
 ·rw[h1,h3];simp[lu,yN]
 ·rw[h1,h3];simp only[lu,Nat.zero_add,List.map_set];rfl
theorem MP {str:Bool} {kf:κ->Value} (hk:tQ str kf) (vf:β->AV) (k:κ) (E:List (κ×β)):IE str (kf k) (lu kf vf E)=some (lu kf vf (kh E k)):=by
 unfold IE
 cases E with
 |nil=>rfl
 |cons p E=>
  rcases qo hk vf k p.2 (p::E) 0 with⟨h1,_,_,h4⟩|⟨j,v0,h1,_,_,h4⟩
  ·rw[h1,h4]
  ·rw[h1,h4];simp only[lu,Nat.zero_add,nM]
theorem hC:∀(E:List (κ×β)) (k:κ) (v:β) (k':κ),cd (gW E k v) k'=if k'=k then some v else cd E k'
 |[],k,v,k'=>by simp[gW,cd]
 |p::E,k,v,k'=>by
  rw[gW]
  by_cases h:k=p.1
  ·rw[if_pos h]
   simp only[cd]
   by_cases h2:k'=k
   ·simp[h2]
   ·have h3:¬k'=p.1:=fun e=>h2 (by rw[e,h])
    simp[h2,h3]
  ·rw[if_neg h]
   simp only[cd]
   rw[hC E k v k']
   by_cases h2:k'=p.1
   ·have h3:¬k'=k:=fun e=>h (by rw[<-e,h2])
    simp only[h2,if_true,h3,if_false]
    rw[if_neg (fun e=>h e.symm)]
   ·simp[h2]
theorem kq:∀(E:List (κ×β)) (k:κ),cd E k=none↔k∉E.map Prod.fst
 |[],k=>by simp[cd]
 |p::E,k=>by
  rw[cd]
  by_cases h:k=p.1
  ·simp[h]
  ·simp[h,kq E k]
theorem wq:∀(E:List (κ×β)) (k:κ),(E.map Prod.fst).Nodup->(∀x,x∈(kh E k).map Prod.fst↔x≠k/\x∈E.map Prod.fst)/\((kh E k).map Prod.fst).Nodup
 |[],k,_=>by simp[kh]
 |p::E,k,h=>by
  rw[List.map_cons,List.nodup_cons] at h
  rw[kh]
  by_cases hk:k=p.1
  ·rw[if_pos hk]
   refine⟨fun x=> ?_,h.2⟩
   simp only[List.map_cons,List.mem_cons]
   constructor
   ·intro hx;exact⟨fun e=>h.1 (by rw[<-hk,<-e];exact hx), .inr hx⟩
   ·rintro⟨h1,h2|h2⟩
    ·exact absurd (h2.trans hk.symm) h1
    ·exact h2
  ·rw[if_neg hk]
   obtain⟨i1,i2⟩:=wq E k h.2
   refine⟨fun x=> ?_, ?_⟩
   ·simp only[List.map_cons,List.mem_cons,i1]
    constructor
    ·rintro(h1|h1)
     ·exact⟨fun e=>hk (by rw[<-e,h1]), .inl h1⟩
     ·exact⟨h1.1, .inr h1.2⟩
    ·rintro⟨h1,h2|h2⟩
     ·exact .inl h2
     ·exact .inr ⟨h1,h2⟩
   ·rw[List.map_cons,List.nodup_cons,i1]
    exact⟨fun hh=>h.1 hh.2,i2⟩
theorem o6:∀(E:List (κ×β)) (k k':κ),(E.map Prod.fst).Nodup->cd (kh E k) k'=if k'=k then none else cd E k'
 |[],k,k',_=>by simp[kh,cd]
 |p::E,k,k',h=>by
  rw[List.map_cons,List.nodup_cons] at h
  rw[kh]
  by_cases hk:k=p.1
  ·rw[if_pos hk]
   by_cases h2:k'=k
   ·rw[if_pos h2,kq,h2,hk];exact h.1
   ·rw[if_neg h2,cd,if_neg (fun e=>h2 (by rw[e,hk]))]
  ·rw[if_neg hk,cd,cd,o6 E k k' h.2]
   by_cases h2:k'=p.1
   ·rw[if_pos h2,if_pos h2,if_neg (fun e=>hk (by rw[<-e,h2]))]
   ·rw[if_neg h2,if_neg h2]
theorem A0:∀(E:List (κ×β)) (k:κ),(kh E k).length+(if(cd E k).isSome=true then 1 else 0)=E.length
 |[],k=>by simp[kh,cd]
 |p::E,k=>by
  rw[kh,cd]
  by_cases h:k=p.1
  ·simp[h]
  ·simp only[h,if_false,List.length_cons]
   have:=A0 E k
   omega
end
end Go.dD
