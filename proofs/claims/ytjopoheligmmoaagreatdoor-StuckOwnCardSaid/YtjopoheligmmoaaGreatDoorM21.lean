import Derived.Test.YtjopoheligmmoaaGreatDoorM19
section
/- Rows that are written no more, told as what is held by value. -/
namespace Go.cZ
open Go.RowKit
set_option linter.unusedSimpArgs false
set_option linter.unusedVariables false
def RT (f:AV→AV) (G:Hp):AV→AV
 | .sl b len=>match bu G b with
  |some (.row _ sz _ es)=>if es.length=len then .im sz .any (es.map f) else .sl b len
  |none=> .sl b len
 | .agg cs=> .agg (cs.map f)
 | .dK cs=> .dK (cs.map f)
 |a=>a
def tq (G:Hp):Nat→AV→AV
 |0,a=>a
 |k+1,a=>RT (tq G k) G a
theorem dL.tx {c c2:Cx} (f:AV→AV) (h:∀a,dN c c2 a (f a)):∀l:List AV,dL c c2 l (l.map f)
 |[]=> .nil
 |a::l=> .cons (h a) (dL.tx f h l)
theorem dN.YK {w0:World} {c c2:Cx} (hS:dZ w0 c) {b:Nat} {e:TypeId} {sz:Nat} {d:AV} {es es2:List AV} (d2:AV) (hw:c2.w=c.w) (hH:c.H b=some (.row e sz d es)) (hM:∀blk o z,c.ρ b=some (blk,o,z)→¬c2.M blk) (h:dL c c2 es es2):dN c c2 (.sl b es.length) (.im sz d2 es2):=by
 have hl:=h.length
 intro v hv
 rw[VR] at hv
 obtain⟨_,a,cap,rfl,hr⟩:=hv
 obtain⟨_,hr⟩:=hr _ _ _ _ hH
 obtain⟨_,hz,hrow⟩:=hS.j4 b _ _ _ _ hH (tN (hr rfl))
 rw[VR]
 rcases hr rfl with⟨hρ,rfl,rfl⟩|⟨blk,o,z,hρ,rfl,hc1,_,_⟩
 ·rcases hrow with⟨_,rfl⟩|⟨_,_,_,hρ',_⟩
  ·have:es2=[]:=List.eq_nil_of_length_eq_zero (by simpa using hl.symm)
   subst this
   exact⟨none,0,rfl,by simp, .inl rfl⟩
  ·rw[hρ] at hρ';cases hρ'
 ·rcases hrow with⟨hρ',_⟩|⟨blk1,o1,z1,hρ1,_,_,_,hrow⟩
  ·rw[hρ] at hρ';cases hρ'
  ·rw[hρ] at hρ1;cases hρ1
   exact⟨_,cap,by rw[←hl],by rw[←hl];exact hc1, .inr ⟨blk,o,rfl,hz,hM _ _ _ hρ,h.row hw hrow⟩⟩
theorem dN.tq {w0:World} {c c2:Cx} {G:Hp} (hS:dZ w0 c) (hw:c2.w=c.w) (hle:c.le c2) (hG:∀b q,bu G b=some q→c.H b=some q∧∀blk o z,c.ρ b=some (blk,o,z)→¬c2.M blk):∀(k:Nat) (a:AV),dN c c2 a (tq G k a):=by
 intro k
 induction k with
 |zero=>intro a;rw[Go.cZ.tq];exact dN.cU hle a
 |succ k ih=>
  intro a
  cases a<;>rw[Go.cZ.tq]<;>simp only[RT]<;>try exact dN.cU hle _
  case sl b len=>
   cases hb:bu G b with
   |none=>simp only;exact dN.cU hle _
   |some q=>
    obtain⟨e,sz,d,es⟩:=q
    simp only
    split
    ·rename_i hl
     obtain⟨g1,g2⟩:=hG b _ hb
     rw[←hl]
     exact dN.YK hS .any hw g1 g2 (dL.tx _ ih es)
    ·exact dN.cU hle _
  case agg cs=>exact dN.agg (dL.tx _ ih cs)
  case dK cs=>exact dN.dK (dL.tx _ ih cs)
def lY (G H:Hp):Hp:=G.map (fun p=>(p.1,none))++H
theorem I7 (H:Hp):lY [] H=H:=rfl
theorem nw (b:Nat) (q:Option eU) (G H:Hp):lY ((b,q)::G) H=(b,none)::lY G H:=rfl
theorem fK {H:Hp} {b:Nat}:∀{G:Hp},b∈G.map (·.1)→bu (lY G H) b=none
 |(x,q)::G,h=>by
  rw[nw]
  by_cases hb:b=x
  ·subst hb;exact cq _ _ _
  ·rw[c8 hb]
   exact fK (by simpa[hb] using h)
theorem fW {H:Hp} {b:Nat}:∀{G:Hp},b∉G.map (·.1)→bu (lY G H) b=bu H b
 |[],_=>rfl
 |(x,q)::G,h=>by
  simp only[List.map_cons,List.mem_cons,not_or] at h
  rw[nw,c8 h.1,fW h.2]
theorem mq {b:Nat} {q:eU}:∀{G:Hp},bu G b=some q→b∈G.map (·.1)
 |(x,p)::G,h=>by
  by_cases hb:b=x
  ·simp[hb]
  ·rw[c8 hb] at h
   simp only[List.map_cons,List.mem_cons]
   exact .inr (mq h)
theorem Wk.YG {r:AV} {H:Hp} {nx:Nat} (G:Hp) (k:Nat) (hG:∀b q,bu G b=some q→bu H b=some q):Wk r H nx (tq G k r) (lY G H) nx:=by
 refine Wk.tell (Nat.le_refl _) (fun b e sz d es he=> ?_) (fun w0 c c2 hS hU hc hc2 hw hle hnew hM=>⟨?_,fun b e sz d es d0 es0 h1 h2=> ?_⟩)
 ·by_cases hb:b∈G.map (·.1)
  ·rw[fK hb] at he;cases he
  ·rw[fW hb] at he
   exact .inl ⟨d,es,he,rfl⟩
 ·refine dN.tq hS hw hle (fun b q hq=> ?_) k r
  have h1:=hG b q hq
  exact⟨by rw[hc];exact h1,fun blk o z hρ=>hM b q blk o z h1 (fK (mq hq)) hρ⟩
 ·by_cases hb:b∈G.map (·.1)
  ·rw[fK hb] at h1;cases h1
  ·rw[fW hb] at h1
   rw[h1] at h2;cases h2
   exact dL.cU hle _
theorem Wk.tq {H:Hp} {nx cb:Nat} {e:TypeId} {sz:Nat} {d:AV} {es:List AV} (G:Hp) (k:Nat) (d2:AV) (hcb:bu H cb=some (.row e sz d es)) (hG:∀b q,bu G b=some q→bu H b=some q):Wk .any H nx .any (lY G ((cb,some (.row e sz d2 (es.map (tq G k))))::H)) nx:=by
 refine Wk.tell (Nat.le_refl _) (fun b e' sz' d' es' he=> ?_) (fun w0 c c2 hS hU hc hc2 hw hle hnew hM=>⟨dN.any _ _ _,fun b e' sz' d' es' d0 es0 h1 h2=> ?_⟩)
 ·by_cases hb:b∈G.map (·.1)
  ·rw[fK hb] at he;cases he
  ·rw[fW hb] at he
   by_cases hbc:b=cb
   ·subst hbc
    rw[cq] at he
    cases he
    exact .inl ⟨d,es,hcb,by simp⟩
   ·rw[c8 hbc] at he
    exact .inl ⟨d',es',he,rfl⟩
 ·by_cases hb:b∈G.map (·.1)
  ·rw[fK hb] at h1;cases h1
  ·rw[fW hb] at h1
   by_cases hbc:b=cb
   ·subst hbc
    rw[cq] at h1
    rw[hcb] at h2
    cases h1;cases h2
    exact dL.tx _ (dN.tq hS hw hle (fun b q hq=>by
     have h1:=hG b q hq
     exact⟨by rw[hc];exact h1,fun blk o z hρ=>hM b q blk o z h1 (fK (mq hq)) hρ⟩) k) _
   ·rw[c8 hbc] at h1
    rw[h1] at h2;cases h2
    exact dL.cU hle _
theorem NU {G:Hp} {k b len:Nat} {e:TypeId} {sz:Nat} {d:AV} {es:List AV} (h:bu G b=some (.row e sz d es)) (hl:es.length=len):tq G (k+1) (.sl b len)= .im sz .any (es.map (tq G k)):=by
 rw[tq,RT,h];simp only;rw[if_pos hl]
theorem se (G:Hp) (l:List AV):l.map (Go.cZ.tq G 0)=l:=by
 have e:tq G 0=id:=by funext a;rfl
 rw[e,List.map_id]
structure xL (str:Bool) {κ:Type} [DecidableEq κ] (kf:κ→Value):Prop where
 eq:∀a b,CQ str (kf a) (kf b)=some (decide (a=b))
theorem NX:xL false (fun n:Int=>Value.int .i64 n):=⟨fun a b=>by simp[CQ]⟩
theorem wT:xL true (fun s:ByteArray=>Value.string s):=⟨fun a b=>by
 simp only[CQ,Option.some.injEq]
 obtain⟨a⟩:=a
 obtain⟨b⟩:=b
 show(a==b)=_
 rw[Bool.eq_iff_iff]
 simp⟩
section
variable {κ β:Type} [DecidableEq κ]
def qP (kf:κ→Value) (vf:β→AV) (E:List (κ×β)):List AV:=E.map fun p=>nK (kf p.1) (vf p.2)
def eh:List (κ×β)→κ→Option β
 |[],_=>none
 |p::E,k=>if k=p.1 then some p.2 else eh E k
def jA:List (κ×β)→κ→β→List (κ×β)
 |[],k,v=>[(k,v)]
 |p::E,k,v=>if k=p.1 then(k,v)::E else p::jA E k v
def RF:List (κ×β)→κ→List (κ×β)
 |[],_=>[]
 |p::E,k=>if k=p.1 then E else p::RF E k
theorem w4 {str:Bool} {kf:κ→Value} (hk:xL str kf) (vf:β→AV) (k:κ) (v:β):∀(E:List (κ×β)) (i:Nat),
 (eZ str (kf k) (qP kf vf E) i=some none∧eh E k=none∧jA E k v=E++[(k,v)]∧RF E k=E)∨
 ∃j v0,eZ str (kf k) (qP kf vf E) i=some (some (i+j,vf v0))∧eh E k=some v0∧jA E k v=E.set j (k,v)∧RF E k=E.eraseIdx j
 |[],i=> .inl ⟨rfl,rfl,rfl,rfl⟩
 |p::E,i=>by
  have e:eZ str (kf k) (qP kf vf (p::E)) i=if k=p.1 then some (some (i,vf p.2)) else eZ str (kf k) (qP kf vf E) (i+1):=by
   simp only[qP,List.map_cons,eZ,nK,sP,hk.eq]
   by_cases h:k=p.1<;>simp[h]
  rw[e,eh,jA,RF]
  by_cases h:k=p.1
  ·simp only[h,if_true]
   exact .inr ⟨0,p.2,by simp,rfl,by simp,by simp⟩
  ·simp only[h,if_false]
   rcases w4 hk vf k v E (i+1) with⟨h1,h2,h3,h4⟩|⟨j,v0,h1,h2,h3,h4⟩
   ·exact .inl ⟨h1,h2,by rw[h3];rfl,by rw[h4]⟩
   ·exact .inr ⟨j+1,v0,by rw[h1];congr 3;omega,h2,by rw[h3];rfl,by rw[h4];rfl⟩
theorem C3 {str:Bool} {kf:κ→Value} (hk:xL str kf) (vf:β→AV) (k:κ) (E:List (κ×β)) (z:AV):mK str (kf k) (qP kf vf E) z=some ((eh E k).elim z vf,(eh E k).isSome):=by
 unfold mK
 cases E with
 |nil=>rfl
 |cons p E=>
  rcases w4 hk vf k p.2 (p::E) 0 with⟨h1,h2,_⟩|⟨j,v0,h1,h2,_⟩<;>rw[h1,h2]<;>rfl
theorem C4 {str:Bool} {kf:κ→Value} (hk:xL str kf) (vf:β→AV) (k:κ) (v:β) (E:List (κ×β)):pD str (kf k) (qP kf vf E) (vf v)=some (qP kf vf (jA E k v)):=by
 unfold pD
 rcases w4 hk vf k v E 0 with⟨h1,_,h3,_⟩|⟨j,v0,h1,_,h3,_⟩
 ·rw[h1,h3];simp[qP,nK]
 ·rw[h1,h3];simp only[qP,Nat.zero_add,List.map_set];rfl
theorem mI:∀(E:List (κ×β)) (k:κ) (v:β) (k':κ),eh (jA E k v) k'=if k'=k then some v else eh E k'
 |[],k,v,k'=>by simp[jA,eh]
 |p::E,k,v,k'=>by
  rw[jA]
  by_cases h:k=p.1
  ·rw[if_pos h]
   simp only[eh]
   by_cases h2:k'=k
   ·simp[h2]
   ·have h3:¬k'=p.1:=fun e=>h2 (by rw[e,h])
    simp[h2,h3]
  ·rw[if_neg h]
   simp only[eh]
   rw[mI E k v k']
   by_cases h2:k'=p.1
   ·have h3:¬k'=k:=fun e=>h (by rw[←e,h2])
    simp only[h2,if_true,h3,if_false]
    rw[if_neg (fun e=>h e.symm)]
   ·simp[h2]
theorem qK:∀(E:List (κ×β)) (k:κ),eh E k=none↔k∉E.map Prod.fst
 |[],k=>by simp[eh]
 |p::E,k=>by
  rw[eh]
  by_cases h:k=p.1
  ·simp[h]
  ·simp[h,qK E k]
end
end Go.cZ
end
