import Derived.Test.YtmonponfppdgfaaGreatDoorM17
section
/- Rows that are written no more, told as what is held by value. -/
namespace Go.ck
open Go.RowKit
set_option linter.unusedSimpArgs false
set_option linter.unusedVariables false
def JR (f:AV→AV) (G:Hp):AV→AV
 | .sl b len=>match bj G b with
  |some (.row _ sz _ es)=>if es.length=len then .im sz .any (es.map f) else .sl b len
  |none=> .sl b len
 | .agg cs=> .agg (cs.map f)
 | .dI cs=> .dI (cs.map f)
 |a=>a
def pn (G:Hp):Nat→AV→AV
 |0,a=>a
 |k+1,a=>JR (pn G k) G a
theorem dA.FK {c c2:Cx} (f:AV→AV) (h:∀a,dZ c c2 a (f a)):∀l:List AV,dA c c2 l (l.map f)
 |[]=> .nil
 |a::l=> .cons (h a) (dA.FK f h l)
theorem dZ.ML {w0:World} {c c2:Cx} (hS:dS w0 c) {b:Nat} {e:TypeId} {sz:Nat} {d:AV} {es es2:List AV} (d2:AV) (hw:c2.w=c.w) (hH:c.H b=some (.row e sz d es)) (hM:∀blk o z,c.ρ b=some (blk,o,z)→¬c2.M blk) (h:dA c c2 es es2):dZ c c2 (.sl b es.length) (.im sz d2 es2):=by
 have hl:=h.length
 intro v hv
 rw[VR] at hv
 obtain⟨_,a,cap,rfl,hr⟩:=hv
 obtain⟨_,hr⟩:=hr _ _ _ _ hH
 obtain⟨_,hz,hrow⟩:=hS.mY b _ _ _ _ hH (sR (hr rfl))
 rw[VR]
 rcases hr rfl with⟨hρ,rfl,rfl⟩|⟨blk,o,z,hρ,rfl,hc1,_,_⟩
 ·rcases hrow with⟨_,rfl⟩|⟨_,_,_,hρ',_⟩
  ·have:es2=[]:=List.eq_nil_of_length_eq_zero (by simpa using hl.symm)
   subst this
   exact⟨none,0,rfl,by simp, .inl rfl⟩
  ·rw[hρ] at hρ';cases hρ'
 ·rcases hrow with⟨hρ',_⟩|⟨blk1,o1,z1,hρ1,_,_,_,hrow⟩
  ·rw[hρ] at hρ';cases hρ'
  ·rw[hρ] at hρ1;cases hρ1
   exact⟨_,cap,by rw[←hl],by rw[←hl];exact hc1, .inr ⟨blk,o,rfl,hz,hM _ _ _ hρ,h.row hw hrow⟩⟩
theorem dZ.pn {w0:World} {c c2:Cx} {G:Hp} (hS:dS w0 c) (hw:c2.w=c.w) (hle:c.le c2) (hG:∀b q,bj G b=some q→c.H b=some q∧∀blk o z,c.ρ b=some (blk,o,z)→¬c2.M blk):∀(k:Nat) (a:AV),dZ c c2 a (pn G k a):=by
 intro k
 induction k with
 |zero=>intro a;rw[Go.ck.pn];exact dZ.cE hle a
 |succ k ih=>
  intro a
  cases a<;>rw[Go.ck.pn]<;>simp only[JR]<;>try exact dZ.cE hle _
  case sl b len=>
   cases hb:bj G b with
   |none=>simp only;exact dZ.cE hle _
   |some q=>
    obtain⟨e,sz,d,es⟩:=q
    simp only
    split
    ·rename_i hl
     obtain⟨g1,g2⟩:=hG b _ hb
     rw[←hl]
     exact dZ.ML hS .any hw g1 g2 (dA.FK _ ih es)
    ·exact dZ.cE hle _
  case agg cs=>exact dZ.agg (dA.FK _ ih cs)
  case dI cs=>exact dZ.dI (dA.FK _ ih cs)
def qz (G H:Hp):Hp:=G.map (fun p=>(p.1,none))++H
theorem tE (H:Hp):qz [] H=H:=rfl
theorem kx (b:Nat) (q:Option eP) (G H:Hp):qz ((b,q)::G) H=(b,none)::qz G H:=rfl
theorem j3 {H:Hp} {b:Nat}:∀{G:Hp},b∈G.map (·.1)→bj (qz G H) b=none
 |(x,q)::G,h=>by
  rw[kx]
  by_cases hb:b=x
  ·subst hb;exact cj _ _ _
  ·rw[cS hb]
   exact j3 (by simpa[hb] using h)
theorem kT {H:Hp} {b:Nat}:∀{G:Hp},b∉G.map (·.1)→bj (qz G H) b=bj H b
 |[],_=>rfl
 |(x,q)::G,h=>by
  simp only[List.map_cons,List.mem_cons,not_or] at h
  rw[kx,cS h.1,kT h.2]
theorem uG {b:Nat} {q:eP}:∀{G:Hp},bj G b=some q→b∈G.map (·.1)
 |(x,p)::G,h=>by
  by_cases hb:b=x
  ·simp[hb]
  ·rw[cS hb] at h
   simp only[List.map_cons,List.mem_cons]
   exact .inr (uG h)
theorem Wk.LA {r:AV} {H:Hp} {nx:Nat} (G:Hp) (k:Nat) (hG:∀b q,bj G b=some q→bj H b=some q):Wk r H nx (pn G k r) (qz G H) nx:=by
 refine Wk.tell (Nat.le_refl _) (fun b e sz d es he=> ?_) (fun w0 c c2 hS hU hc hc2 hw hle hnew hM=>⟨?_,fun b e sz d es d0 es0 h1 h2=> ?_⟩)
 ·by_cases hb:b∈G.map (·.1)
  ·rw[j3 hb] at he;cases he
  ·rw[kT hb] at he
   exact .inl ⟨d,es,he,rfl⟩
 ·refine dZ.pn hS hw hle (fun b q hq=> ?_) k r
  have h1:=hG b q hq
  exact⟨by rw[hc];exact h1,fun blk o z hρ=>hM b q blk o z h1 (j3 (uG hq)) hρ⟩
 ·by_cases hb:b∈G.map (·.1)
  ·rw[j3 hb] at h1;cases h1
  ·rw[kT hb] at h1
   rw[h1] at h2;cases h2
   exact dA.cE hle _
theorem Wk.pn {H:Hp} {nx cb:Nat} {e:TypeId} {sz:Nat} {d:AV} {es:List AV} (G:Hp) (k:Nat) (d2:AV) (hcb:bj H cb=some (.row e sz d es)) (hG:∀b q,bj G b=some q→bj H b=some q):Wk .any H nx .any (qz G ((cb,some (.row e sz d2 (es.map (pn G k))))::H)) nx:=by
 refine Wk.tell (Nat.le_refl _) (fun b e' sz' d' es' he=> ?_) (fun w0 c c2 hS hU hc hc2 hw hle hnew hM=>⟨dZ.any _ _ _,fun b e' sz' d' es' d0 es0 h1 h2=> ?_⟩)
 ·by_cases hb:b∈G.map (·.1)
  ·rw[j3 hb] at he;cases he
  ·rw[kT hb] at he
   by_cases hbc:b=cb
   ·subst hbc
    rw[cj] at he
    cases he
    exact .inl ⟨d,es,hcb,by simp⟩
   ·rw[cS hbc] at he
    exact .inl ⟨d',es',he,rfl⟩
 ·by_cases hb:b∈G.map (·.1)
  ·rw[j3 hb] at h1;cases h1
  ·rw[kT hb] at h1
   by_cases hbc:b=cb
   ·subst hbc
    rw[cj] at h1
    rw[hcb] at h2
    cases h1;cases h2
    exact dA.FK _ (dZ.pn hS hw hle (fun b q hq=>by
     have h1:=hG b q hq
     exact⟨by rw[hc];exact h1,fun blk o z hρ=>hM b q blk o z h1 (j3 (uG hq)) hρ⟩) k) _
   ·rw[cS hbc] at h1
    rw[h1] at h2;cases h2
    exact dA.cE hle _
theorem rD (G:Hp) (k:Nat) (v:Value):pn G k (.sc v)= .sc v:=by cases k<;>rfl
theorem oo {G:Hp} {k b len:Nat} {e:TypeId} {sz:Nat} {d:AV} {es:List AV} (h:bj G b=some (.row e sz d es)) (hl:es.length=len):pn G (k+1) (.sl b len)= .im sz .any (es.map (pn G k)):=by
 rw[pn,JR,h];simp only;rw[if_pos hl]
theorem vj (G:Hp) (l:List AV):l.map (Go.ck.pn G 0)=l:=by
 have e:pn G 0=id:=by funext a;rfl
 rw[e,List.map_id]
theorem me {α γ:Type} (f:α→γ):∀(l:List α) (i:Nat),(l.map f).eraseIdx i=(l.eraseIdx i).map f
 |[],_=>rfl
 |a::l,0=>rfl
 |a::l,i+1=>by simp[me f l i]
structure sW (str:Bool) {κ:Type} [DecidableEq κ] (kf:κ→Value):Prop where
 eq:∀a b,I0 str (kf a) (kf b)=some (decide (a=b))
theorem nH:sW false (fun n:Int=>Value.int .i64 n):=⟨fun a b=>by simp[I0]⟩
theorem C9:sW true (fun s:ByteArray=>Value.string s):=⟨fun a b=>by
 simp only[I0,Option.some.injEq]
 obtain⟨a⟩:=a
 obtain⟨b⟩:=b
 show(a==b)=_
 rw[Bool.eq_iff_iff]
 simp⟩
section
variable {κ β:Type} [DecidableEq κ]
def lW (kf:κ→Value) (vf:β→AV) (E:List (κ×β)):List AV:=E.map fun p=>xH (kf p.1) (vf p.2)
def c8:List (κ×β)→κ→Option β
 |[],_=>none
 |p::E,k=>if k=p.1 then some p.2 else c8 E k
def gE:List (κ×β)→κ→β→List (κ×β)
 |[],k,v=>[(k,v)]
 |p::E,k,v=>if k=p.1 then(k,v)::E else p::gE E k v
def kP:List (κ×β)→κ→List (κ×β)
 |[],_=>[]
 |p::E,k=>if k=p.1 then E else p::kP E k
theorem qH {str:Bool} {kf:κ→Value} (hk:sW str kf) (vf:β→AV) (k:κ) (v:β):∀(E:List (κ×β)) (i:Nat),
 (iC str (kf k) (lW kf vf E) i=some none∧c8 E k=none∧gE E k v=E++[(k,v)]∧kP E k=E)∨
 ∃j v0,iC str (kf k) (lW kf vf E) i=some (some (i+j,vf v0))∧c8 E k=some v0∧gE E k v=E.set j (k,v)∧kP E k=E.eraseIdx j
 |[],i=> .inl ⟨rfl,rfl,rfl,rfl⟩
 |p::E,i=>by
  have e:iC str (kf k) (lW kf vf (p::E)) i=if k=p.1 then some (some (i,vf p.2)) else iC str (kf k) (lW kf vf E) (i+1):=by
   simp only[lW,List.map_cons,iC,xH,HA,hk.eq]
   by_cases h:k=p.1<;>simp[h]
  rw[e,c8,gE,kP]
  by_cases h:k=p.1
  ·simp only[h,if_true]
   exact .inr ⟨0,p.2,by simp,rfl,by simp,by simp⟩
  ·simp only[h,if_false]
   rcases qH hk vf k v E (i+1) with⟨h1,h2,h3,h4⟩|⟨j,v0,h1,h2,h3,h4⟩
   ·exact .inl ⟨h1,h2,by rw[h3];rfl,by rw[h4]⟩
   ·exact .inr ⟨j+1,v0,by rw[h1];congr 3;omega,h2,by rw[h3];rfl,by rw[h4];rfl⟩
theorem uO {str:Bool} {kf:κ→Value} (hk:sW str kf) (vf:β→AV) (k:κ) (E:List (κ×β)) (z:AV):pq str (kf k) (lW kf vf E) z=some ((c8 E k).elim z vf,(c8 E k).isSome):=by
 unfold pq
 cases E with
 |nil=>rfl
 |cons p E=>
  rcases qH hk vf k p.2 (p::E) 0 with⟨h1,h2,_⟩|⟨j,v0,h1,h2,_⟩<;>rw[h1,h2]<;>rfl
theorem uP {str:Bool} {kf:κ→Value} (hk:sW str kf) (vf:β→AV) (k:κ) (v:β) (E:List (κ×β)):sM str (kf k) (lW kf vf E) (vf v)=some (lW kf vf (gE E k v)):=by
 unfold sM
 rcases qH hk vf k v E 0 with⟨h1,_,h3,_⟩|⟨j,v0,h1,_,h3,_⟩
 ·rw[h1,h3];simp[lW,xH]
 ·rw[h1,h3];simp only[lW,Nat.zero_add,List.map_set];rfl
theorem JY {str:Bool} {kf:κ→Value} (hk:sW str kf) (vf:β→AV) (k:κ) (E:List (κ×β)):FM str (kf k) (lW kf vf E)=some (lW kf vf (kP E k)):=by
 unfold FM
 cases E with
 |nil=>rfl
 |cons p E=>
  rcases qH hk vf k p.2 (p::E) 0 with⟨h1,_,_,h4⟩|⟨j,v0,h1,_,_,h4⟩
  ·rw[h1,h4]
  ·rw[h1,h4];simp only[lW,Nat.zero_add,me]
theorem gT:∀(E:List (κ×β)) (k:κ) (v:β) (k':κ),c8 (gE E k v) k'=if k'=k then some v else c8 E k'
 |[],k,v,k'=>by simp[gE,c8]
 |p::E,k,v,k'=>by
  rw[gE]
  by_cases h:k=p.1
  ·rw[if_pos h]
   simp only[c8]
   by_cases h2:k'=k
   ·simp[h2]
   ·have h3:¬k'=p.1:=fun e=>h2 (by rw[e,h])
    simp[h2,h3]
  ·rw[if_neg h]
   simp only[c8]
   rw[gT E k v k']
   by_cases h2:k'=p.1
   ·have h3:¬k'=k:=fun e=>h (by rw[←e,h2])
    simp only[h2,if_true,h3,if_false]
    rw[if_neg (fun e=>h e.symm)]
   ·simp[h2]
theorem kY:∀(E:List (κ×β)) (k:κ),c8 E k=none↔k∉E.map Prod.fst
 |[],k=>by simp[c8]
 |p::E,k=>by
  rw[c8]
  by_cases h:k=p.1
  ·simp[h]
  ·simp[h,kY E k]
theorem vn:∀(E:List (κ×β)) (k:κ),(E.map Prod.fst).Nodup→(∀x,x∈(kP E k).map Prod.fst↔x≠k∧x∈E.map Prod.fst)∧((kP E k).map Prod.fst).Nodup
 |[],k,_=>by simp[kP]
 |p::E,k,h=>by
  rw[List.map_cons,List.nodup_cons] at h
  rw[kP]
  by_cases hk:k=p.1
  ·rw[if_pos hk]
   refine⟨fun x=> ?_,h.2⟩
   simp only[List.map_cons,List.mem_cons]
   constructor
   ·intro hx;exact⟨fun e=>h.1 (by rw[←hk,←e];exact hx), .inr hx⟩
   ·rintro⟨h1,h2|h2⟩
    ·exact absurd (h2.trans hk.symm) h1
    ·exact h2
  ·rw[if_neg hk]
   obtain⟨i1,i2⟩:=vn E k h.2
   refine⟨fun x=> ?_, ?_⟩
   ·simp only[List.map_cons,List.mem_cons,i1]
    constructor
    ·rintro(h1|h1)
     ·exact⟨fun e=>hk (by rw[←e,h1]), .inl h1⟩
     ·exact⟨h1.1, .inr h1.2⟩
    ·rintro⟨h1,h2|h2⟩
     ·exact .inl h2
     ·exact .inr ⟨h1,h2⟩
   ·rw[List.map_cons,List.nodup_cons,i1]
    exact⟨fun hh=>h.1 hh.2,i2⟩
theorem oA:∀(E:List (κ×β)) (k k':κ),(E.map Prod.fst).Nodup→c8 (kP E k) k'=if k'=k then none else c8 E k'
 |[],k,k',_=>by simp[kP,c8]
 |p::E,k,k',h=>by
  rw[List.map_cons,List.nodup_cons] at h
  rw[kP]
  by_cases hk:k=p.1
  ·rw[if_pos hk]
   by_cases h2:k'=k
   ·rw[if_pos h2,kY,h2,hk];exact h.1
   ·rw[if_neg h2,c8,if_neg (fun e=>h2 (by rw[e,hk]))]
  ·rw[if_neg hk,c8,c8,oA E k k' h.2]
   by_cases h2:k'=p.1
   ·rw[if_pos h2,if_pos h2,if_neg (fun e=>hk (by rw[←e,h2]))]
   ·rw[if_neg h2,if_neg h2]
theorem zD:∀(E:List (κ×β)) (k:κ),(kP E k).length+(if(c8 E k).isSome=true then 1 else 0)=E.length
 |[],k=>by simp[kP,c8]
 |p::E,k=>by
  rw[kP,c8]
  by_cases h:k=p.1
  ·simp[h]
  ·simp only[h,if_false,List.length_cons]
   have:=zD E k
   omega
end
end Go.ck
end
