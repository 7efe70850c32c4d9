import Derived.Test.YtjopoheligmmoaaGreatDoorM21
import Derived.Test.YtjopoheligmmoaaGreatDoorM26
import Derived.Test.YtjopoheligmmoaaGreatDoorM28
namespace Go.dA
open Go.RowKit
set_option linter.unusedSimpArgs false
set_option linter.unusedVariables false
def wV (f:AV->AV) (G:Hp):AV->AV
 | .sl b len=>match cC G b with
  |some (.row _ sz _ es)=>if es.length=len then .im sz .any (es.map f) else .sl b len
  |none=> .sl b len
 | .pt b len i off=>match cC G b with
  |some (.row _ sz _ es)=>if es.length=len then .ip sz .any (es.map f) i off else .pt b len i off
  |none=> .pt b len i off
 | .agg cs=> .agg (cs.map f)
 | .dQ cs=> .dQ (cs.map f)
 |a=>a
def ig (G:Hp):Nat->AV->AV
 |0,a=>a
 |k+1,a=>wV (ig G k) G a
theorem dY.ipS {w0:World} {c c2:Cx} (hS:du w0 c) {b i off:Nat} {e:TypeId} {sz:Nat} {d:AV} {es es2:List AV} (d2:AV) (hw:c2.w=c.w) (hH:c.H b=some (.row e sz d es)) (hM:∀blk o z,c.ρ b=some (blk,o,z)->¬c2.M blk) (h:dZ c c2 es es2):dY c c2 (.pt b es.length i off) (.ip sz d2 es2 i off):=by
 have hl:=h.length
 intro v hv
 rw[VR] at hv
 obtain⟨_,hi,a,rfl,hr⟩:=hv
 obtain⟨_,hr⟩:=hr _ _ _ _ hH
 obtain⟨hoff,blk,o,z,hρ,rfl⟩:=hr rfl
 obtain⟨_,hz,hrow⟩:=hS.jo b _ _ _ _ hH (.inr (by omega))
 rw[VR]
 rcases hrow with⟨hρ',_⟩|⟨blk1,o1,z1,hρ1,_,_,_,hrow⟩
 ·rw[hρ] at hρ';cases hρ'
 ·rw[hρ] at hρ1;cases hρ1
  exact⟨by omega,hoff,blk,o,rfl,hM _ _ _ hρ,h.row hw hrow⟩
theorem dY.ig {w0:World} {c c2:Cx} {G:Hp} (hS:du w0 c) (hw:c2.w=c.w) (hle:c.le c2) (hG:∀b q,cC G b=some q->c.H b=some q/\∀blk o z,c.ρ b=some (blk,o,z)->¬c2.M blk):∀(k:Nat) (a:AV),dY c c2 a (ig G k a):=by
 intro k
 induction k with
 |zero=>intro a;rw[Go.dA.ig];exact dY.cd hle a
 |succ k ih=>
  intro a
  cases a<;>rw[Go.dA.ig]<;>simp only[wV]<;>try exact dY.cd hle _
  case sl b len=>
   cases hb:cC G b with
   |none=>simp only;exact dY.cd hle _
   |some q=>
    obtain⟨e,sz,d,es⟩:=q
    simp only
    split
    ·rename_i hl
     obtain⟨g1,g2⟩:=hG b _ hb
     rw[<-hl]
     exact dY.V4 hS .any hw g1 g2 (dZ.vO _ ih es)
    ·exact dY.cd hle _
  case pt b len i off=>
   cases hb:cC G b with
   |none=>simp only;exact dY.cd hle _
   |some q=>
    obtain⟨e,sz,d,es⟩:=q
    simp only
    split
    ·rename_i hl
     obtain⟨g1,g2⟩:=hG b _ hb
     rw[<-hl]
     exact dY.ipS hS .any hw g1 g2 (dZ.vO _ ih es)
    ·exact dY.cd hle _
  case agg cs=>exact dY.agg (dZ.vO _ ih cs)
  case dQ cs=>exact dY.dQ (dZ.vO _ ih cs)
theorem Wk.V0 {r:AV} {H:Hp} {nx:Nat} (G:Hp) (k:Nat) (hG:∀b q,cC G b=some q->cC H b=some q):Wk r H nx (Go.dA.ig G k r) (mm G H) nx:=by
 refine Wk.tell (Nat.le_refl _) (fun b e sz d es he=> ?_) (fun w0 c c2 hS hU hc hc2 hw hle hnew hM=>⟨?_,fun b e sz d es d0 es0 h1 h2=> ?_⟩)
 ·by_cases hb:b∈G.map (·.1)
  ·rw[fj hb] at he;cases he
  ·rw[gI hb] at he
   exact .inl ⟨d,es,he,rfl⟩
 ·refine dY.ig hS hw hle (fun b q hq=> ?_) k r
  have h1:=hG b q hq
  exact⟨by rw[hc];exact h1,fun blk o z hρ=>hM b q blk o z h1 (fj (oJ hq)) hρ⟩
 ·by_cases hb:b∈G.map (·.1)
  ·rw[fj hb] at h1;cases h1
  ·rw[gI hb] at h1
   rw[h1] at h2;cases h2
   exact dZ.cd hle _
theorem Wk.ig {H:Hp} {nx cb:Nat} {e:TypeId} {sz:Nat} {d:AV} {es:List AV} (G:Hp) (k:Nat) (d2:AV) (hcb:cC H cb=some (.row e sz d es)) (hG:∀b q,cC G b=some q->cC H b=some q):Wk .any H nx .any (mm G ((cb,some (.row e sz d2 (es.map (Go.dA.ig G k))))::H)) nx:=by
 refine Wk.tell (Nat.le_refl _) (fun b e' sz' d' es' he=> ?_) (fun w0 c c2 hS hU hc hc2 hw hle hnew hM=>⟨dY.any _ _ _,fun b e' sz' d' es' d0 es0 h1 h2=> ?_⟩)
 ·by_cases hb:b∈G.map (·.1)
  ·rw[fj hb] at he;cases he
  ·rw[gI hb] at he
   by_cases hbc:b=cb
   ·subst hbc
    rw[cx] at he
    cases he
    exact .inl ⟨d,es,hcb,by simp⟩
   ·rw[cc hbc] at he
    exact .inl ⟨d',es',he,rfl⟩
 ·by_cases hb:b∈G.map (·.1)
  ·rw[fj hb] at h1;cases h1
  ·rw[gI hb] at h1
   by_cases hbc:b=cb
   ·subst hbc
    rw[cx] at h1
    rw[hcb] at h2
    cases h1;cases h2
    exact dZ.vO _ (dY.ig hS hw hle (fun b q hq=>by
     have h1:=hG b q hq
     exact⟨by rw[hc];exact h1,fun blk o z hρ=>hM b q blk o z h1 (fj (oJ hq)) hρ⟩) k) _
   ·rw[cc hbc] at h1
    rw[h1] at h2;cases h2
    exact dZ.cd hle _
mutual
/-- No row's name in it. -/
theorem la {G:Hp}:∀(k:Nat) {a:AV},cP 0 a->Go.dA.ig G k a=a
 |0,a,_=>rfl
 |k+1,a,h=>by
  cases a<;>rw[Go.dA.ig]<;>simp only[wV]
  case sl b len=>rw[cP] at h;omega
  case pt b len i off=>rw[cP] at h;omega
  case agg cs=>rw[cP] at h;rw[gl k h]
  case dQ cs=>rw[cP] at h;rw[gl k h]
theorem gl {G:Hp}:∀(k:Nat) {cs:List AV},cg 0 cs->cs.map (Go.dA.ig G k)=cs
 |k,[],_=>rfl
 |k,a::cs,h=>by
  rw[cg] at h
  rw[List.map_cons,la k h.1,gl k h.2]
end
theorem oK {G:Hp} {k b len:Nat} {e:TypeId} {sz:Nat} {d:AV} {es:List AV} (h:cC G b=some (.row e sz d es)) (hl:es.length=len):Go.dA.ig G (k+1) (.sl b len)= .im sz .any (es.map (Go.dA.ig G k)):=by
 rw[Go.dA.ig,wV,h];simp only;rw[if_pos hl]
theorem QE {G:Hp} {k b len i off:Nat} {e:TypeId} {sz:Nat} {d:AV} {es:List AV} (h:cC G b=some (.row e sz d es)) (hl:es.length=len):Go.dA.ig G (k+1) (.pt b len i off)= .ip sz .any (es.map (Go.dA.ig G k)) i off:=by
 rw[Go.dA.ig,wV,h];simp only;rw[if_pos hl]
theorem zd {G:Hp} {k:Nat} {cs:List AV}:Go.dA.ig G (k+1) (.agg cs)= .agg (cs.map (Go.dA.ig G k)):=by rw[Go.dA.ig,wV]
end Go.dA
