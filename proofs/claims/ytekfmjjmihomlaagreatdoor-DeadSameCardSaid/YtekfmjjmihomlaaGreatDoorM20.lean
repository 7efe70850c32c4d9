import Derived.Test.YtekfmjjmihomlaaGreatDoorM18
namespace Go.cw
open Go.RowKit
set_option linter.unusedSimpArgs false
set_option linter.unusedVariables false
def SD (f:AV->AV) (G:Hp):AV->AV
 | .sl b len=>match bo G b with
  |some (.row _ sz _ es)=>if es.length=len then .im sz .any (es.map f) else .sl b len
  |none=> .sl b len
 | .agg cs=> .agg (cs.map f)
 | .df cs=> .df (cs.map f)
 |a=>a
def wW (G:Hp):Nat->AV->AV
 |0,a=>a
 |k+1,a=>SD (wW G k) G a
theorem dL.vV {c c2:Cx} (f:AV->AV) (h:∀a,da c c2 a (f a)):∀l:List AV,dL c c2 l (l.map f)
 |[]=> .nil
 |a::l=> .cons (h a) (dL.vV f h l)
theorem da.XV {w0:World} {c c2:Cx} (hS:du w0 c) {b:Nat} {e:TypeId} {sz:Nat} {d:AV} {es es2:List AV} (d2:AV) (hw:c2.w=c.w) (hH:c.H b=some (.row e sz d es)) (hM:∀blk o z,c.ρ b=some (blk,o,z)->¬c2.M blk) (h:dL c c2 es es2):da c c2 (.sl b es.length) (.im sz d2 es2):=by
 have hl:=h.length
 intro v hv
 rw[VR] at hv
 obtain⟨_,a,cap,rfl,hr⟩:=hv
 obtain⟨_,hr⟩:=hr _ _ _ _ hH
 obtain⟨_,hz,hrow⟩:=hS.mD b _ _ _ _ hH (yK (hr rfl))
 rw[VR]
 rcases hr rfl with⟨hρ,rfl,rfl⟩|⟨blk,o,z,hρ,rfl,hc1,_,_⟩
 ·rcases hrow with⟨_,rfl⟩|⟨_,_,_,hρ',_⟩
  ·have:es2=[]:=List.eq_nil_of_length_eq_zero (by simpa using hl.symm)
   subst this
   exact⟨none,0,rfl,by simp, .inl rfl⟩
  ·rw[hρ] at hρ';cases hρ'
 ·rcases hrow with⟨hρ',_⟩|⟨blk1,o1,z1,hρ1,_,_,_,hrow⟩
  ·rw[hρ] at hρ';cases hρ'
  ·rw[hρ] at hρ1;cases hρ1
   exact⟨_,cap,by rw[<-hl],by rw[<-hl];exact hc1, .inr ⟨blk,o,rfl,hz,hM _ _ _ hρ,h.row hw hrow⟩⟩
theorem da.wW {w0:World} {c c2:Cx} {G:Hp} (hS:du w0 c) (hw:c2.w=c.w) (hle:c.le c2) (hG:∀b q,bo G b=some q->c.H b=some q/\∀blk o z,c.ρ b=some (blk,o,z)->¬c2.M blk):∀(k:Nat) (a:AV),da c c2 a (wW G k a):=by
 intro k
 induction k with
 |zero=>intro a;rw[Go.cw.wW];exact da.keep hle a
 |succ k ih=>
  intro a
  cases a<;>rw[Go.cw.wW]<;>simp only[SD]<;>try exact da.keep hle _
  case sl b len=>
   cases hb:bo G b with
   |none=>simp only;exact da.keep hle _
   |some q=>
    obtain⟨e,sz,d,es⟩:=q
    simp only
    split
    ·rename_i hl
     obtain⟨g1,g2⟩:=hG b _ hb
     rw[<-hl]
     exact da.XV hS .any hw g1 g2 (dL.vV _ ih es)
    ·exact da.keep hle _
  case agg cs=>exact da.agg (dL.vV _ ih cs)
  case df cs=>exact da.df (dL.vV _ ih cs)
def oM (G H:Hp):Hp:=G.map (fun p=>(p.1,none))++H
theorem I1 (H:Hp):oM [] H=H:=rfl
theorem oh (b:Nat) (q:Option fA) (G H:Hp):oM ((b,q)::G) H=(b,none)::oM G H:=rfl
theorem gY {H:Hp} {b:Nat}:∀{G:Hp},b∈G.map (·.1)->bo (oM G H) b=none
 |(x,q)::G,h=>by
  rw[oh]
  by_cases hb:b=x
  ·subst hb;exact cq _ _ _
  ·rw[cX hb]
   exact gY (by simpa[hb] using h)
theorem iB {H:Hp} {b:Nat}:∀{G:Hp},b∉G.map (·.1)->bo (oM G H) b=bo H b
 |[],_=>rfl
 |(x,q)::G,h=>by
  simp only[List.map_cons,List.mem_cons,not_or] at h
  rw[oh,cX h.1,iB h.2]
theorem pe {b:Nat} {q:fA}:∀{G:Hp},bo G b=some q->b∈G.map (·.1)
 |(x,p)::G,h=>by
  by_cases hb:b=x
  ·simp[hb]
  ·rw[cX hb] at h
   simp only[List.map_cons,List.mem_cons]
   exact .inr (pe h)
theorem Wk.XQ {r:AV} {H:Hp} {nx:Nat} (G:Hp) (k:Nat) (hG:∀b q,bo G b=some q->bo H b=some q):Wk r H nx (wW G k r) (oM G H) nx:=by
 refine Wk.tell (Nat.le_refl _) (fun b e sz d es he=> ?_) (fun w0 c c2 hS hU hc hc2 hw hle hnew hM=>⟨?_,fun b e sz d es d0 es0 h1 h2=> ?_⟩)
 ·by_cases hb:b∈G.map (·.1)
  ·rw[gY hb] at he;cases he
  ·rw[iB hb] at he
   exact .inl ⟨d,es,he,rfl⟩
 ·refine da.wW hS hw hle (fun b q hq=> ?_) k r
  have h1:=hG b q hq
  exact⟨by rw[hc];exact h1,fun blk o z hρ=>hM b q blk o z h1 (gY (pe hq)) hρ⟩
 ·by_cases hb:b∈G.map (·.1)
  ·rw[gY hb] at h1;cases h1
  ·rw[iB hb] at h1
   rw[h1] at h2;cases h2
   exact dL.keep hle _
theorem Wk.wW {H:Hp} {nx cb:Nat} {e:TypeId} {sz:Nat} {d:AV} {es:List AV} (G:Hp) (k:Nat) (d2:AV) (hcb:bo H cb=some (.row e sz d es)) (hG:∀b q,bo G b=some q->bo H b=some q):Wk .any H nx .any (oM G ((cb,some (.row e sz d2 (es.map (wW G k))))::H)) nx:=by
 refine Wk.tell (Nat.le_refl _) (fun b e' sz' d' es' he=> ?_) (fun w0 c c2 hS hU hc hc2 hw hle hnew hM=>⟨da.any _ _ _,fun b e' sz' d' es' d0 es0 h1 h2=> ?_⟩)
 ·by_cases hb:b∈G.map (·.1)
  ·rw[gY hb] at he;cases he
  ·rw[iB hb] at he
   by_cases hbc:b=cb
   ·subst hbc
    rw[cq] at he
    cases he
    exact .inl ⟨d,es,hcb,by simp⟩
   ·rw[cX hbc] at he
    exact .inl ⟨d',es',he,rfl⟩
 ·by_cases hb:b∈G.map (·.1)
  ·rw[gY hb] at h1;cases h1
  ·rw[iB hb] at h1
   by_cases hbc:b=cb
   ·subst hbc
    rw[cq] at h1
    rw[hcb] at h2
    cases h1;cases h2
    exact dL.vV _ (da.wW hS hw hle (fun b q hq=>by
     have h1:=hG b q hq
     exact⟨by rw[hc];exact h1,fun blk o z hρ=>hM b q blk o z h1 (gY (pe hq)) hρ⟩) k) _
   ·rw[cX hbc] at h1
    rw[h1] at h2;cases h2
    exact dL.keep hle _
theorem NC {G:Hp} {k b len:Nat} {e:TypeId} {sz:Nat} {d:AV} {es:List AV} (h:bo G b=some (.row e sz d es)) (hl:es.length=len):wW G (k+1) (.sl b len)= .im sz .any (es.map (wW G k)):=by
 rw[wW,SD,h];simp only;rw[if_pos hl]
theorem uG (G:Hp) (l:List AV):l.map (Go.cw.wW G 0)=l:=by
 have e:wW G 0=id:=by funext a;rfl
 rw[e,List.map_id]
theorem oL {α γ:Type} (f:α->γ):∀(l:List α) (i:Nat),(l.map f).eraseIdx i=(l.eraseIdx i).map f
 |[],_=>rfl
 |a::l,0=>rfl
 |a::l,i+1=>by simp[oL f l i]
structure vh (str:Bool) {κ:Type} [DecidableEq κ] (kf:κ->Value):Prop where
 eq:∀a b,UI str (kf a) (kf b)=some (decide (a=b))
theorem oq:vh false (fun n:Int=>Value.int .i64 n):=⟨fun a b=>by simp[UI]⟩
theorem xo:vh true (fun s:ByteArray=>Value.string s):=⟨fun a b=>by
 simp only[UI,Option.some.injEq]
 obtain⟨a⟩:=a
 obtain⟨b⟩:=b
 show(a==b)=_
 rw[Bool.eq_iff_iff]
 simp⟩
section
variable {κ β:Type} [DecidableEq κ]
def lu (kf:κ->Value) (vf:β->AV) (E:List (κ×β)):List AV:=E.map fun p=>CN (kf p.1) (vf p.2)
def cm:List (κ×β)->κ->Option β
 |[],_=>none
 |p::E,k=>if k=p.1 then some p.2 else cm E k
def gA:List (κ×β)->κ->β->List (κ×β)
 |[],k,v=>[(k,v)]
 |p::E,k,v=>if k=p.1 then(k,v)::E else p::gA E k v
def kz:List (κ×β)->κ->List (κ×β)
 |[],_=>[]
 |p::E,k=>if k=p.1 then E else p::kz E k
theorem sf {str:Bool} {kf:κ->Value} (hk:vh str kf) (vf:β->AV) (k:κ) (v:β):∀(E:List (κ×β)) (i:Nat),
 (iW str (kf k) (lu kf vf E) i=some none/\cm E k=none/\gA E k v=E++[(k,v)]/\kz E k=E)\/
 ∃j v0,iW str (kf k) (lu kf vf E) i=some (some (i+j,vf v0))/\cm E k=some v0/\gA E k v=E.set j (k,v)/\kz E k=E.eraseIdx j
 |[],i=> .inl ⟨rfl,rfl,rfl,rfl⟩
 |p::E,i=>by
  have e:iW str (kf k) (lu kf vf (p::E)) i=if k=p.1 then some (some (i,vf p.2)) else iW str (kf k) (lu kf vf E) (i+1):=by
   simp only[lu,List.map_cons,iW,CN,R1,hk.eq]
   by_cases h:k=p.1<;>simp[h]
  rw[e,cm,gA,kz]
  by_cases h:k=p.1
  ·simp only[h,if_true]
   exact .inr ⟨0,p.2,by simp,rfl,by simp,by simp⟩
  ·simp only[h,if_false]
   rcases sf hk vf k v E (i+1) with⟨h1,h2,h3,h4⟩|⟨j,v0,h1,h2,h3,h4⟩
   ·exact .inl ⟨h1,h2,by rw[h3];rfl,by rw[h4]⟩
   ·exact .inr ⟨j+1,v0,by rw[h1];congr 3;omega,h2,by rw[h3];rfl,by rw[h4];rfl⟩
theorem uU {str:Bool} {kf:κ->Value} (hk:vh str kf) (vf:β->AV) (k:κ) (E:List (κ×β)) (z:AV):qB str (kf k) (lu kf vf E) z=some ((cm E k).elim z vf,(cm E k).isSome):=by
 unfold qB
 cases E with
 |nil=>rfl
 |cons p E=>
  rcases sf hk vf k p.2 (p::E) 0 with⟨h1,h2,_⟩|⟨j,v0,h1,h2,_⟩<;>rw[h1,h2]<;>rfl
theorem uV {str:Bool} {kf:κ->Value} (hk:vh str kf) (vf:β->AV) (k:κ) (v:β) (E:List (κ×β)):sO str (kf k) (lu kf vf E) (vf v)=some (lu kf vf (gA E k v)):=by
 unfold sO
 rcases sf hk vf k v E 0 with⟨h1,_,h3,_⟩|⟨j,v0,h1,_,h3,_⟩
 ·rw[h1,h3];simp[lu,CN]
 ·rw[h1,h3];simp only[lu,Nat.zero_add,List.map_set];rfl
theorem VY {str:Bool} {kf:κ->Value} (hk:vh str kf) (vf:β->AV) (k:κ) (E:List (κ×β)):PE str (kf k) (lu kf vf E)=some (lu kf vf (kz E k)):=by
 unfold PE
 cases E with
 |nil=>rfl
 |cons p E=>
  rcases sf hk vf k p.2 (p::E) 0 with⟨h1,_,_,h4⟩|⟨j,v0,h1,_,_,h4⟩
  ·rw[h1,h4]
  ·rw[h1,h4];simp only[lu,Nat.zero_add,oL]
theorem gb:∀(E:List (κ×β)) (k:κ) (v:β) (k':κ),cm (gA E k v) k'=if k'=k then some v else cm E k'
 |[],k,v,k'=>by simp[gA,cm]
 |p::E,k,v,k'=>by
  rw[gA]
  by_cases h:k=p.1
  ·rw[if_pos h]
   simp only[cm]
   by_cases h2:k'=k
   ·simp[h2]
   ·have h3:¬k'=p.1:=fun e=>h2 (by rw[e,h])
    simp[h2,h3]
  ·rw[if_neg h]
   simp only[cm]
   rw[gb E k v k']
   by_cases h2:k'=p.1
   ·have h3:¬k'=k:=fun e=>h (by rw[<-e,h2])
    simp only[h2,if_true,h3,if_false]
    rw[if_neg (fun e=>h e.symm)]
   ·simp[h2]
theorem jB:∀(E:List (κ×β)) (k:κ),cm E k=none↔k∉E.map Prod.fst
 |[],k=>by simp[cm]
 |p::E,k=>by
  rw[cm]
  by_cases h:k=p.1
  ·simp[h]
  ·simp[h,jB E k]
theorem ze:∀(E:List (κ×β)) (k:κ),(E.map Prod.fst).Nodup->(∀x,x∈(kz E k).map Prod.fst↔x≠k/\x∈E.map Prod.fst)/\((kz E k).map Prod.fst).Nodup
 |[],k,_=>by simp[kz]
 |p::E,k,h=>by
  rw[List.map_cons,List.nodup_cons] at h
  rw[kz]
  by_cases hk:k=p.1
  ·rw[if_pos hk]
   refine⟨fun x=> ?_,h.2⟩
   simp only[List.map_cons,List.mem_cons]
   constructor
   ·intro hx;exact⟨fun e=>h.1 (by rw[<-hk,<-e];exact hx), .inr hx⟩
   ·rintro⟨h1,h2|h2⟩
    ·exact absurd (h2.trans hk.symm) h1
    ·exact h2
  ·rw[if_neg hk]
   obtain⟨i1,i2⟩:=ze E k h.2
   refine⟨fun x=> ?_, ?_⟩
   ·simp only[List.map_cons,List.mem_cons,i1]
    constructor
    ·rintro(h1|h1)
     ·exact⟨fun e=>hk (by rw[<-e,h1]), .inl h1⟩
     ·exact⟨h1.1, .inr h1.2⟩
    ·rintro⟨h1,h2|h2⟩
     ·exact .inl h2
     ·exact .inr ⟨h1,h2⟩
   ·rw[List.map_cons,List.nodup_cons,i1]
    exact⟨fun hh=>h.1 hh.2,i2⟩
theorem px:∀(E:List (κ×β)) (k k':κ),(E.map Prod.fst).Nodup->cm (kz E k) k'=if k'=k then none else cm E k'
 |[],k,k',_=>by simp[kz,cm]
 |p::E,k,k',h=>by
  rw[List.map_cons,List.nodup_cons] at h
  rw[kz]
  by_cases hk:k=p.1
  ·rw[if_pos hk]
   by_cases h2:k'=k
   ·rw[if_pos h2,jB,h2,hk];exact h.1
   ·rw[if_neg h2,cm,if_neg (fun e=>h2 (by rw[e,hk]))]
  ·rw[if_neg hk,cm,cm,px E k k' h.2]
   by_cases h2:k'=p.1
   ·rw[if_pos h2,if_pos h2,if_neg (fun e=>hk (by rw[<-e,h2]))]
   ·rw[if_neg h2,if_neg h2]
theorem GJ:∀(E:List (κ×β)) (k:κ),(kz E k).length+(if(cm E k).isSome=true then 1 else 0)=E.length
 |[],k=>by simp[kz,cm]
 |p::E,k=>by
  rw[kz,cm]
  by_cases h:k=p.1
  ·simp[h]
  ·simp only[h,if_false,List.length_cons]
   have:=GJ E k
   omega
end
end Go.cw
