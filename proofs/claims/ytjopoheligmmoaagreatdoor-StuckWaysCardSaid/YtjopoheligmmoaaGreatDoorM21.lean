import Derived.Test.YtjopoheligmmoaaGreatDoorM19
namespace Go.cw
open Go.RowKit
set_option linter.unusedSimpArgs false
set_option linter.unusedVariables false
def QR (f:AV->AV) (G:Hp):AV->AV
 | .sl b len=>match bt G b with
  |some (.row _ sz _ es)=>if es.length=len then .im sz .any (es.map f) else .sl b len
  |none=> .sl b len
 | .agg cs=> .agg (cs.map f)
 | .dI cs=> .dI (cs.map f)
 |a=>a
def vm (G:Hp):Nat->AV->AV
 |0,a=>a
 |k+1,a=>QR (vm G k) G a
theorem dW.vr {c c2:Cx} (f:AV->AV) (h:∀a,db c c2 a (f a)):∀l:List AV,dW c c2 l (l.map f)
 |[]=> .nil
 |a::l=> .cons (h a) (dW.vr f h l)
theorem db.WG {w0:World} {c c2:Cx} (hS:dy w0 c) {b:Nat} {e:TypeId} {sz:Nat} {d:AV} {es es2:List AV} (d2:AV) (hw:c2.w=c.w) (hH:c.H b=some (.row e sz d es)) (hM:∀blk o z,c.ρ b=some (blk,o,z)->¬c2.M blk) (h:dW c c2 es es2):db c c2 (.sl b es.length) (.im sz d2 es2):=by
 have hl:=h.length
 intro v hv
 rw[VR] at hv
 obtain⟨_,a,cap,rfl,hr⟩:=hv
 obtain⟨_,hr⟩:=hr _ _ _ _ hH
 obtain⟨_,hz,hrow⟩:=hS.kO b _ _ _ _ hH (vI (hr rfl))
 rw[VR]
 rcases hr rfl with⟨hρ,rfl,rfl⟩|⟨blk,o,z,hρ,rfl,hc1,_,_⟩
 ·rcases hrow with⟨_,rfl⟩|⟨_,_,_,hρ',_⟩
  ·have:es2=[]:=List.eq_nil_of_length_eq_zero (by simpa using hl.symm)
   subst this
   exact⟨none,0,rfl,by simp, .inl rfl⟩
  ·rw[hρ] at hρ';cases hρ'
 ·rcases hrow with⟨hρ',_⟩|⟨blk1,o1,z1,hρ1,_,_,_,hrow⟩
  ·rw[hρ] at hρ';cases hρ'
  ·rw[hρ] at hρ1;cases hρ1
   exact⟨_,cap,by rw[<-hl],by rw[<-hl];exact hc1, .inr ⟨blk,o,rfl,hz,hM _ _ _ hρ,h.row hw hrow⟩⟩
theorem db.vm {w0:World} {c c2:Cx} {G:Hp} (hS:dy w0 c) (hw:c2.w=c.w) (hle:c.le c2) (hG:∀b q,bt G b=some q->c.H b=some q/\∀blk o z,c.ρ b=some (blk,o,z)->¬c2.M blk):∀(k:Nat) (a:AV),db c c2 a (vm G k a):=by
 intro k
 induction k with
 |zero=>intro a;rw[Go.cw.vm];exact db.cc hle a
 |succ k ih=>
  intro a
  cases a<;>rw[Go.cw.vm]<;>simp only[QR]<;>try exact db.cc hle _
  case sl b len=>
   cases hb:bt G b with
   |none=>simp only;exact db.cc hle _
   |some q=>
    obtain⟨e,sz,d,es⟩:=q
    simp only
    split
    ·rename_i hl
     obtain⟨g1,g2⟩:=hG b _ hb
     rw[<-hl]
     exact db.WG hS .any hw g1 g2 (dW.vr _ ih es)
    ·exact db.cc hle _
  case agg cs=>exact db.agg (dW.vr _ ih cs)
  case dI cs=>exact db.dI (dW.vr _ ih cs)
def mj (G H:Hp):Hp:=G.map (fun p=>(p.1,none))++H
theorem wi (H:Hp):mj [] H=H:=rfl
theorem mO (b:Nat) (q:Option fH) (G H:Hp):mj ((b,q)::G) H=(b,none)::mj G H:=rfl
theorem fw {H:Hp} {b:Nat}:∀{G:Hp},b∈G.map (·.1)->bt (mj G H) b=none
 |(x,q)::G,h=>by
  rw[mO]
  by_cases hb:b=x
  ·subst hb;exact ca _ _ _
  ·rw[cN hb]
   exact fw (by simpa[hb] using h)
theorem gN {H:Hp} {b:Nat}:∀{G:Hp},b∉G.map (·.1)->bt (mj G H) b=bt H b
 |[],_=>rfl
 |(x,q)::G,h=>by
  simp only[List.map_cons,List.mem_cons,not_or] at h
  rw[mO,cN h.1,gN h.2]
theorem oM {b:Nat} {q:fH}:∀{G:Hp},bt G b=some q->b∈G.map (·.1)
 |(x,p)::G,h=>by
  by_cases hb:b=x
  ·simp[hb]
  ·rw[cN hb] at h
   simp only[List.map_cons,List.mem_cons]
   exact .inr (oM h)
theorem Wk.TX {r:AV} {H:Hp} {nx:Nat} (G:Hp) (k:Nat) (hG:∀b q,bt G b=some q->bt H b=some q):Wk r H nx (vm G k r) (mj G H) nx:=by
 refine Wk.tell (Nat.le_refl _) (fun b e sz d es he=> ?_) (fun w0 c c2 hS hU hc hc2 hw hle hnew hM=>⟨?_,fun b e sz d es d0 es0 h1 h2=> ?_⟩)
 ·by_cases hb:b∈G.map (·.1)
  ·rw[fw hb] at he;cases he
  ·rw[gN hb] at he
   exact .inl ⟨d,es,he,rfl⟩
 ·refine db.vm hS hw hle (fun b q hq=> ?_) k r
  have h1:=hG b q hq
  exact⟨by rw[hc];exact h1,fun blk o z hρ=>hM b q blk o z h1 (fw (oM hq)) hρ⟩
 ·by_cases hb:b∈G.map (·.1)
  ·rw[fw hb] at h1;cases h1
  ·rw[gN hb] at h1
   rw[h1] at h2;cases h2
   exact dW.cc hle _
theorem Wk.vm {H:Hp} {nx cb:Nat} {e:TypeId} {sz:Nat} {d:AV} {es:List AV} (G:Hp) (k:Nat) (d2:AV) (hcb:bt H cb=some (.row e sz d es)) (hG:∀b q,bt G b=some q->bt H b=some q):Wk .any H nx .any (mj G ((cb,some (.row e sz d2 (es.map (vm G k))))::H)) nx:=by
 refine Wk.tell (Nat.le_refl _) (fun b e' sz' d' es' he=> ?_) (fun w0 c c2 hS hU hc hc2 hw hle hnew hM=>⟨db.any _ _ _,fun b e' sz' d' es' d0 es0 h1 h2=> ?_⟩)
 ·by_cases hb:b∈G.map (·.1)
  ·rw[fw hb] at he;cases he
  ·rw[gN hb] at he
   by_cases hbc:b=cb
   ·subst hbc
    rw[ca] at he
    cases he
    exact .inl ⟨d,es,hcb,by simp⟩
   ·rw[cN hbc] at he
    exact .inl ⟨d',es',he,rfl⟩
 ·by_cases hb:b∈G.map (·.1)
  ·rw[fw hb] at h1;cases h1
  ·rw[gN hb] at h1
   by_cases hbc:b=cb
   ·subst hbc
    rw[ca] at h1
    rw[hcb] at h2
    cases h1;cases h2
    exact dW.vr _ (db.vm hS hw hle (fun b q hq=>by
     have h1:=hG b q hq
     exact⟨by rw[hc];exact h1,fun blk o z hρ=>hM b q blk o z h1 (fw (oM hq)) hρ⟩) k) _
   ·rw[cN hbc] at h1
    rw[h1] at h2;cases h2
    exact dW.cc hle _
theorem DI {G:Hp} {k b len:Nat} {e:TypeId} {sz:Nat} {d:AV} {es:List AV} (h:bt G b=some (.row e sz d es)) (hl:es.length=len):vm G (k+1) (.sl b len)= .im sz .any (es.map (vm G k)):=by
 rw[vm,QR,h];simp only;rw[if_pos hl]
theorem qS (G:Hp) (l:List AV):l.map (Go.cw.vm G 0)=l:=by
 have e:vm G 0=id:=by funext a;rfl
 rw[e,List.map_id]
structure yi (str:Bool) {κ:Type} [DecidableEq κ] (kf:κ->Value):Prop where
 eq:∀a b,DJ str (kf a) (kf b)=some (decide (a=b))
theorem M9:yi false (fun n:Int=>Value.int .i64 n):=⟨fun a b=>by simp[DJ]⟩
theorem xw:yi true (fun s:ByteArray=>Value.string s):=⟨fun a b=>by
 simp only[DJ,Option.some.injEq]
 obtain⟨a⟩:=a
 obtain⟨b⟩:=b
 show(a==b)=_
 rw[Bool.eq_iff_iff]
 simp⟩
section
variable {κ β:Type} [DecidableEq κ]
def rf (kf:κ->Value) (vf:β->AV) (E:List (κ×β)):List AV:=E.map fun p=>og (kf p.1) (vf p.2)
def fQ:List (κ×β)->κ->Option β
 |[],_=>none
 |p::E,k=>if k=p.1 then some p.2 else fQ E k
def fS:List (κ×β)->κ->β->List (κ×β)
 |[],k,v=>[(k,v)]
 |p::E,k,v=>if k=p.1 then(k,v)::E else p::fS E k v
def P9:List (κ×β)->κ->List (κ×β)
 |[],_=>[]
 |p::E,k=>if k=p.1 then E else p::P9 E k
theorem yC {str:Bool} {kf:κ->Value} (hk:yi str kf) (vf:β->AV) (k:κ) (v:β):∀(E:List (κ×β)) (i:Nat),
 (fG str (kf k) (rf kf vf E) i=some none/\fQ E k=none/\fS E k v=E++[(k,v)]/\P9 E k=E)\/
 ∃j v0,fG str (kf k) (rf kf vf E) i=some (some (i+j,vf v0))/\fQ E k=some v0/\fS E k v=E.set j (k,v)/\P9 E k=E.eraseIdx j
 |[],i=> .inl ⟨rfl,rfl,rfl,rfl⟩
 |p::E,i=>by
  have e:fG str (kf k) (rf kf vf (p::E)) i=if k=p.1 then some (some (i,vf p.2)) else fG str (kf k) (rf kf vf E) (i+1):=by
   simp only[rf,List.map_cons,fG,og,uK,hk.eq]
   by_cases h:k=p.1<;>simp[h]
  rw[e,fQ,fS,P9]
  by_cases h:k=p.1
  ·simp only[h,if_true]
   exact .inr ⟨0,p.2,by simp,rfl,by simp,by simp⟩
  ·simp only[h,if_false]
   rcases yC hk vf k v E (i+1) with⟨h1,h2,h3,h4⟩|⟨j,v0,h1,h2,h3,h4⟩
   ·exact .inl ⟨h1,h2,by rw[h3];rfl,by rw[h4]⟩
   ·exact .inr ⟨j+1,v0,by rw[h1];congr 3;omega,h2,by rw[h3];rfl,by rw[h4];rfl⟩
theorem DT {str:Bool} {kf:κ->Value} (hk:yi str kf) (vf:β->AV) (k:κ) (E:List (κ×β)) (z:AV):na str (kf k) (rf kf vf E) z=some ((fQ E k).elim z vf,(fQ E k).isSome):=by
 unfold na
 cases E with
 |nil=>rfl
 |cons p E=>
  rcases yC hk vf k p.2 (p::E) 0 with⟨h1,h2,_⟩|⟨j,v0,h1,h2,_⟩<;>rw[h1,h2]<;>rfl
theorem DU {str:Bool} {kf:κ->Value} (hk:yi str kf) (vf:β->AV) (k:κ) (v:β) (E:List (κ×β)):qW str (kf k) (rf kf vf E) (vf v)=some (rf kf vf (fS E k v)):=by
 unfold qW
 rcases yC hk vf k v E 0 with⟨h1,_,h3,_⟩|⟨j,v0,h1,_,h3,_⟩
 ·rw[h1,h3];simp[rf,og]
 ·rw[h1,h3];simp only[rf,Nat.zero_add,List.map_set];rfl
theorem nY:∀(E:List (κ×β)) (k:κ) (v:β) (k':κ),fQ (fS E k v) k'=if k'=k then some v else fQ E k'
 |[],k,v,k'=>by simp[fS,fQ]
 |p::E,k,v,k'=>by
  rw[fS]
  by_cases h:k=p.1
  ·rw[if_pos h]
   simp only[fQ]
   by_cases h2:k'=k
   ·simp[h2]
   ·have h3:¬k'=p.1:=fun e=>h2 (by rw[e,h])
    simp[h2,h3]
  ·rw[if_neg h]
   simp only[fQ]
   rw[nY E k v k']
   by_cases h2:k'=p.1
   ·have h3:¬k'=k:=fun e=>h (by rw[<-e,h2])
    simp only[h2,if_true,h3,if_false]
    rw[if_neg (fun e=>h e.symm)]
   ·simp[h2]
theorem rW:∀(E:List (κ×β)) (k:κ),fQ E k=none↔k∉E.map Prod.fst
 |[],k=>by simp[fQ]
 |p::E,k=>by
  rw[fQ]
  by_cases h:k=p.1
  ·simp[h]
  ·simp[h,rW E k]
end
end Go.cw
