import Derived.Test.YtmonponfppdgfaaGreatDoorM17
section
/- Rows that are written no more, told as what is held by value. -/
namespace Go.ch
open Go.RowKit
set_option linter.unusedSimpArgs false
set_option linter.unusedVariables false
def JU (f:AV→AV) (G:Hp):AV→AV
 | .sl b len=>match bj G b with
  |some (.row _ sz _ es)=>if es.length=len then .im sz .any (es.map f) else .sl b len
  |none=> .sl b len
 | .agg cs=> .agg (cs.map f)
 | .dI cs=> .dI (cs.map f)
 |a=>a
def px (G:Hp):Nat→AV→AV
 |0,a=>a
 |k+1,a=>JU (px G k) G a
theorem dA.FO {c c2:Cx} (f:AV→AV) (h:∀a,dZ c c2 a (f a)):∀l:List AV,dA c c2 l (l.map f)
 |[]=> .nil
 |a::l=> .cons (h a) (dA.FO f h l)
theorem dZ.MO {w0:World} {c c2:Cx} (hS:dS w0 c) {b:Nat} {e:TypeId} {sz:Nat} {d:AV} {es es2:List AV} (d2:AV) (hw:c2.w=c.w) (hH:c.H b=some (.row e sz d es)) (hM:∀blk o z,c.ρ b=some (blk,o,z)→¬c2.M blk) (h:dA c c2 es es2):dZ c c2 (.sl b es.length) (.im sz d2 es2):=by
 have hl:=h.length
 intro v hv
 rw[VR] at hv
 obtain⟨_,a,cap,rfl,hr⟩:=hv
 obtain⟨_,hr⟩:=hr _ _ _ _ hH
 obtain⟨_,hz,hrow⟩:=hS.m8 b _ _ _ _ hH (sZ (hr rfl))
 rw[VR]
 rcases hr rfl with⟨hρ,rfl,rfl⟩|⟨blk,o,z,hρ,rfl,hc1,_,_⟩
 ·rcases hrow with⟨_,rfl⟩|⟨_,_,_,hρ',_⟩
  ·have:es2=[]:=List.eq_nil_of_length_eq_zero (by simpa using hl.symm)
   subst this
   exact⟨none,0,rfl,by simp, .inl rfl⟩
  ·rw[hρ] at hρ';cases hρ'
 ·rcases hrow with⟨hρ',_⟩|⟨blk1,o1,z1,hρ1,_,_,_,hrow⟩
  ·rw[hρ] at hρ';cases hρ'
  ·rw[hρ] at hρ1;cases hρ1
   exact⟨_,cap,by rw[←hl],by rw[←hl];exact hc1, .inr ⟨blk,o,rfl,hz,hM _ _ _ hρ,h.row hw hrow⟩⟩
theorem dZ.px {w0:World} {c c2:Cx} {G:Hp} (hS:dS w0 c) (hw:c2.w=c.w) (hle:c.le c2) (hG:∀b q,bj G b=some q→c.H b=some q∧∀blk o z,c.ρ b=some (blk,o,z)→¬c2.M blk):∀(k:Nat) (a:AV),dZ c c2 a (px G k a):=by
 intro k
 induction k with
 |zero=>intro a;rw[Go.ch.px];exact dZ.cE hle a
 |succ k ih=>
  intro a
  cases a<;>rw[Go.ch.px]<;>simp only[JU]<;>try exact dZ.cE hle _
  case sl b len=>
   cases hb:bj G b with
   |none=>simp only;exact dZ.cE hle _
   |some q=>
    obtain⟨e,sz,d,es⟩:=q
    simp only
    split
    ·rename_i hl
     obtain⟨g1,g2⟩:=hG b _ hb
     rw[←hl]
     exact dZ.MO hS .any hw g1 g2 (dA.FO _ ih es)
    ·exact dZ.cE hle _
  case agg cs=>exact dZ.agg (dA.FO _ ih cs)
  case dI cs=>exact dZ.dI (dA.FO _ ih cs)
def rC (G H:Hp):Hp:=G.map (fun p=>(p.1,none))++H
theorem tL (H:Hp):rC [] H=H:=rfl
theorem ku (b:Nat) (q:Option eP) (G H:Hp):rC ((b,q)::G) H=(b,none)::rC G H:=rfl
theorem j1 {H:Hp} {b:Nat}:∀{G:Hp},b∈G.map (·.1)→bj (rC G H) b=none
 |(x,q)::G,h=>by
  rw[ku]
  by_cases hb:b=x
  ·subst hb;exact ck _ _ _
  ·rw[cS hb]
   exact j1 (by simpa[hb] using h)
theorem kS {H:Hp} {b:Nat}:∀{G:Hp},b∉G.map (·.1)→bj (rC G H) b=bj H b
 |[],_=>rfl
 |(x,q)::G,h=>by
  simp only[List.map_cons,List.mem_cons,not_or] at h
  rw[ku,cS h.1,kS h.2]
theorem uM {b:Nat} {q:eP}:∀{G:Hp},bj G b=some q→b∈G.map (·.1)
 |(x,p)::G,h=>by
  by_cases hb:b=x
  ·simp[hb]
  ·rw[cS hb] at h
   simp only[List.map_cons,List.mem_cons]
   exact .inr (uM h)
theorem Wk.LD {r:AV} {H:Hp} {nx:Nat} (G:Hp) (k:Nat) (hG:∀b q,bj G b=some q→bj H b=some q):Wk r H nx (px G k r) (rC G H) nx:=by
 refine Wk.tell (Nat.le_refl _) (fun b e sz d es he=> ?_) (fun w0 c c2 hS hU hc hc2 hw hle hnew hM=>⟨?_,fun b e sz d es d0 es0 h1 h2=> ?_⟩)
 ·by_cases hb:b∈G.map (·.1)
  ·rw[j1 hb] at he;cases he
  ·rw[kS hb] at he
   exact .inl ⟨d,es,he,rfl⟩
 ·refine dZ.px hS hw hle (fun b q hq=> ?_) k r
  have h1:=hG b q hq
  exact⟨by rw[hc];exact h1,fun blk o z hρ=>hM b q blk o z h1 (j1 (uM hq)) hρ⟩
 ·by_cases hb:b∈G.map (·.1)
  ·rw[j1 hb] at h1;cases h1
  ·rw[kS hb] at h1
   rw[h1] at h2;cases h2
   exact dA.cE hle _
theorem Wk.px {H:Hp} {nx cb:Nat} {e:TypeId} {sz:Nat} {d:AV} {es:List AV} (G:Hp) (k:Nat) (d2:AV) (hcb:bj H cb=some (.row e sz d es)) (hG:∀b q,bj G b=some q→bj H b=some q):Wk .any H nx .any (rC G ((cb,some (.row e sz d2 (es.map (px G k))))::H)) nx:=by
 refine Wk.tell (Nat.le_refl _) (fun b e' sz' d' es' he=> ?_) (fun w0 c c2 hS hU hc hc2 hw hle hnew hM=>⟨dZ.any _ _ _,fun b e' sz' d' es' d0 es0 h1 h2=> ?_⟩)
 ·by_cases hb:b∈G.map (·.1)
  ·rw[j1 hb] at he;cases he
  ·rw[kS hb] at he
   by_cases hbc:b=cb
   ·subst hbc
    rw[ck] at he
    cases he
    exact .inl ⟨d,es,hcb,by simp⟩
   ·rw[cS hbc] at he
    exact .inl ⟨d',es',he,rfl⟩
 ·by_cases hb:b∈G.map (·.1)
  ·rw[j1 hb] at h1;cases h1
  ·rw[kS hb] at h1
   by_cases hbc:b=cb
   ·subst hbc
    rw[ck] at h1
    rw[hcb] at h2
    cases h1;cases h2
    exact dA.FO _ (dZ.px hS hw hle (fun b q hq=>by
     have h1:=hG b q hq
     exact⟨by rw[hc];exact h1,fun blk o z hρ=>hM b q blk o z h1 (j1 (uM hq)) hρ⟩) k) _
   ·rw[cS hbc] at h1
    rw[h1] at h2;cases h2
    exact dA.cE hle _
theorem rG (G:Hp) (k:Nat) (v:Value):px G k (.sc v)= .sc v:=by cases k<;>rfl
theorem oq {G:Hp} {k b len:Nat} {e:TypeId} {sz:Nat} {d:AV} {es:List AV} (h:bj G b=some (.row e sz d es)) (hl:es.length=len):px G (k+1) (.sl b len)= .im sz .any (es.map (px G k)):=by
 rw[px,JU,h];simp only;rw[if_pos hl]
theorem vn (G:Hp) (l:List AV):l.map (Go.ch.px G 0)=l:=by
 have e:px G 0=id:=by funext a;rfl
 rw[e,List.map_id]
theorem mg {α γ:Type} (f:α→γ):∀(l:List α) (i:Nat),(l.map f).eraseIdx i=(l.eraseIdx i).map f
 |[],_=>rfl
 |a::l,0=>rfl
 |a::l,i+1=>by simp[mg f l i]
structure s6 (str:Bool) {κ:Type} [DecidableEq κ] (kf:κ→Value):Prop where
 eq:∀a b,I3 str (kf a) (kf b)=some (decide (a=b))
theorem nH:s6 false (fun n:Int=>Value.int .i64 n):=⟨fun a b=>by simp[I3]⟩
theorem DE:s6 true (fun s:ByteArray=>Value.string s):=⟨fun a b=>by
 simp only[I3,Option.some.injEq]
 obtain⟨a⟩:=a
 obtain⟨b⟩:=b
 show(a==b)=_
 rw[Bool.eq_iff_iff]
 simp⟩
section
variable {κ β:Type} [DecidableEq κ]
def lX (kf:κ→Value) (vf:β→AV) (E:List (κ×β)):List AV:=E.map fun p=>xJ (kf p.1) (vf p.2)
def c9:List (κ×β)→κ→Option β
 |[],_=>none
 |p::E,k=>if k=p.1 then some p.2 else c9 E k
def gE:List (κ×β)→κ→β→List (κ×β)
 |[],k,v=>[(k,v)]
 |p::E,k,v=>if k=p.1 then(k,v)::E else p::gE E k v
def kO:List (κ×β)→κ→List (κ×β)
 |[],_=>[]
 |p::E,k=>if k=p.1 then E else p::kO E k
theorem qL {str:Bool} {kf:κ→Value} (hk:s6 str kf) (vf:β→AV) (k:κ) (v:β):∀(E:List (κ×β)) (i:Nat),
 (iD str (kf k) (lX kf vf E) i=some none∧c9 E k=none∧gE E k v=E++[(k,v)]∧kO E k=E)∨
 ∃j v0,iD str (kf k) (lX kf vf E) i=some (some (i+j,vf v0))∧c9 E k=some v0∧gE E k v=E.set j (k,v)∧kO E k=E.eraseIdx j
 |[],i=> .inl ⟨rfl,rfl,rfl,rfl⟩
 |p::E,i=>by
  have e:iD str (kf k) (lX kf vf (p::E)) i=if k=p.1 then some (some (i,vf p.2)) else iD str (kf k) (lX kf vf E) (i+1):=by
   simp only[lX,List.map_cons,iD,xJ,HD,hk.eq]
   by_cases h:k=p.1<;>simp[h]
  rw[e,c9,gE,kO]
  by_cases h:k=p.1
  ·simp only[h,if_true]
   exact .inr ⟨0,p.2,by simp,rfl,by simp,by simp⟩
  ·simp only[h,if_false]
   rcases qL hk vf k v E (i+1) with⟨h1,h2,h3,h4⟩|⟨j,v0,h1,h2,h3,h4⟩
   ·exact .inl ⟨h1,h2,by rw[h3];rfl,by rw[h4]⟩
   ·exact .inr ⟨j+1,v0,by rw[h1];congr 3;omega,h2,by rw[h3];rfl,by rw[h4];rfl⟩
theorem uT {str:Bool} {kf:κ→Value} (hk:s6 str kf) (vf:β→AV) (k:κ) (E:List (κ×β)) (z:AV):pz str (kf k) (lX kf vf E) z=some ((c9 E k).elim z vf,(c9 E k).isSome):=by
 unfold pz
 cases E with
 |nil=>rfl
 |cons p E=>
  rcases qL hk vf k p.2 (p::E) 0 with⟨h1,h2,_⟩|⟨j,v0,h1,h2,_⟩<;>rw[h1,h2]<;>rfl
theorem uU {str:Bool} {kf:κ→Value} (hk:s6 str kf) (vf:β→AV) (k:κ) (v:β) (E:List (κ×β)):sP str (kf k) (lX kf vf E) (vf v)=some (lX kf vf (gE E k v)):=by
 unfold sP
 rcases qL hk vf k v E 0 with⟨h1,_,h3,_⟩|⟨j,v0,h1,_,h3,_⟩
 ·rw[h1,h3];simp[lX,xJ]
 ·rw[h1,h3];simp only[lX,Nat.zero_add,List.map_set];rfl
theorem J0 {str:Bool} {kf:κ→Value} (hk:s6 str kf) (vf:β→AV) (k:κ) (E:List (κ×β)):FQ str (kf k) (lX kf vf E)=some (lX kf vf (kO E k)):=by
 unfold FQ
 cases E with
 |nil=>rfl
 |cons p E=>
  rcases qL hk vf k p.2 (p::E) 0 with⟨h1,_,_,h4⟩|⟨j,v0,h1,_,_,h4⟩
  ·rw[h1,h4]
  ·rw[h1,h4];simp only[lX,Nat.zero_add,mg]
theorem gT:∀(E:List (κ×β)) (k:κ) (v:β) (k':κ),c9 (gE E k v) k'=if k'=k then some v else c9 E k'
 |[],k,v,k'=>by simp[gE,c9]
 |p::E,k,v,k'=>by
  rw[gE]
  by_cases h:k=p.1
  ·rw[if_pos h]
   simp only[c9]
   by_cases h2:k'=k
   ·simp[h2]
   ·have h3:¬k'=p.1:=fun e=>h2 (by rw[e,h])
    simp[h2,h3]
  ·rw[if_neg h]
   simp only[c9]
   rw[gT E k v k']
   by_cases h2:k'=p.1
   ·have h3:¬k'=k:=fun e=>h (by rw[←e,h2])
    simp only[h2,if_true,h3,if_false]
    rw[if_neg (fun e=>h e.symm)]
   ·simp[h2]
theorem kW:∀(E:List (κ×β)) (k:κ),c9 E k=none↔k∉E.map Prod.fst
 |[],k=>by simp[c9]
 |p::E,k=>by
  rw[c9]
  by_cases h:k=p.1
  ·simp[h]
  ·simp[h,kW E k]
theorem vr:∀(E:List (κ×β)) (k:κ),(E.map Prod.fst).Nodup→(∀x,x∈(kO E k).map Prod.fst↔x≠k∧x∈E.map Prod.fst)∧((kO E k).map Prod.fst).Nodup
 |[],k,_=>by simp[kO]
 |p::E,k,h=>by
  rw[List.map_cons,List.nodup_cons] at h
  rw[kO]
  by_cases hk:k=p.1
  ·rw[if_pos hk]
   refine⟨fun x=> ?_,h.2⟩
   simp only[List.map_cons,List.mem_cons]
   constructor
   ·intro hx;exact⟨fun e=>h.1 (by rw[←hk,←e];exact hx), .inr hx⟩
   ·rintro⟨h1,h2|h2⟩
    ·exact absurd (h2.trans hk.symm) h1
    ·exact h2
  ·rw[if_neg hk]
   obtain⟨i1,i2⟩:=vr E k h.2
   refine⟨fun x=> ?_, ?_⟩
   ·simp only[List.map_cons,List.mem_cons,i1]
    constructor
    ·rintro(h1|h1)
     ·exact⟨fun e=>hk (by rw[←e,h1]), .inl h1⟩
     ·exact⟨h1.1, .inr h1.2⟩
    ·rintro⟨h1,h2|h2⟩
     ·exact .inl h2
     ·exact .inr ⟨h1,h2⟩
   ·rw[List.map_cons,List.nodup_cons,i1]
    exact⟨fun hh=>h.1 hh.2,i2⟩
theorem oC:∀(E:List (κ×β)) (k k':κ),(E.map Prod.fst).Nodup→c9 (kO E k) k'=if k'=k then none else c9 E k'
 |[],k,k',_=>by simp[kO,c9]
 |p::E,k,k',h=>by
  rw[List.map_cons,List.nodup_cons] at h
  rw[kO]
  by_cases hk:k=p.1
  ·rw[if_pos hk]
   by_cases h2:k'=k
   ·rw[if_pos h2,kW,h2,hk];exact h.1
   ·rw[if_neg h2,c9,if_neg (fun e=>h2 (by rw[e,hk]))]
  ·rw[if_neg hk,c9,c9,oC E k k' h.2]
   by_cases h2:k'=p.1
   ·rw[if_pos h2,if_pos h2,if_neg (fun e=>hk (by rw[←e,h2]))]
   ·rw[if_neg h2,if_neg h2]
theorem zF:∀(E:List (κ×β)) (k:κ),(kO E k).length+(if(c9 E k).isSome=true then 1 else 0)=E.length
 |[],k=>by simp[kO,c9]
 |p::E,k=>by
  rw[kO,c9]
  by_cases h:k=p.1
  ·simp[h]
  ·simp only[h,if_false,List.length_cons]
   have:=zF E k
   omega
end
end Go.ch
end
