import Derived.Test.YtjopoheligmmoaaGreatDoorM21
import Derived.Test.YtjopoheligmmoaaGreatDoorM26
import Derived.Test.YtjopoheligmmoaaGreatDoorM28
namespace Go.cp
open Go.RowKit
set_option linter.unusedSimpArgs false
set_option linter.unusedVariables false
def u5 (f:AV->AV) (G:Hp):AV->AV
 | .sl b len=>match bw G b with
  |some (.row _ sz _ es)=>if es.length=len then .im sz .any (es.map f) else .sl b len
  |none=> .sl b len
 | .pt b len i off=>match bw G b with
  |some (.row _ sz _ es)=>if es.length=len then .ip sz .any (es.map f) i off else .pt b len i off
  |none=> .pt b len i off
 | .agg cs=> .agg (cs.map f)
 | .dO cs=> .dO (cs.map f)
 |a=>a
def gm (G:Hp):Nat->AV->AV
 |0,a=>a
 |k+1,a=>u5 (gm G k) G a
theorem dN.WG {w0:World} {c c2:Cx} (hS:dY w0 c) {b i off:Nat} {e:TypeId} {sz:Nat} {d:AV} {es es2:List AV} (d2:AV) (hw:c2.w=c.w) (hH:c.H b=some (.row e sz d es)) (hM:∀blk o z,c.ρ b=some (blk,o,z)->¬c2.M blk) (h:dK c c2 es es2):dN c c2 (.pt b es.length i off) (.ip sz d2 es2 i off):=by
 have hl:=h.length
 intro v hv
 rw[VR] at hv
 obtain⟨_,hi,a,rfl,hr⟩:=hv
 obtain⟨_,hr⟩:=hr _ _ _ _ hH
 obtain⟨hoff,blk,o,z,hρ,rfl⟩:=hr rfl
 obtain⟨_,hz,hrow⟩:=hS.jU b _ _ _ _ hH (.inr (by omega))
 rw[VR]
 rcases hrow with⟨hρ',_⟩|⟨blk1,o1,z1,hρ1,_,_,_,hrow⟩
 ·rw[hρ] at hρ';cases hρ'
 ·rw[hρ] at hρ1;cases hρ1
  exact⟨by omega,hoff,blk,o,rfl,hM _ _ _ hρ,h.row hw hrow⟩
theorem dN.gm {w0:World} {c c2:Cx} {G:Hp} (hS:dY w0 c) (hw:c2.w=c.w) (hle:c.le c2) (hG:∀b q,bw G b=some q->c.H b=some q/\∀blk o z,c.ρ b=some (blk,o,z)->¬c2.M blk):∀(k:Nat) (a:AV),dN c c2 a (gm G k a):=by
 intro k
 induction k with
 |zero=>intro a;rw[Go.cp.gm];exact dN.cT hle a
 |succ k ih=>
  intro a
  cases a<;>rw[Go.cp.gm]<;>simp only[u5]<;>try exact dN.cT hle _
  case sl b len=>
   cases hb:bw G b with
   |none=>simp only;exact dN.cT hle _
   |some q=>
    obtain⟨e,sz,d,es⟩:=q
    simp only
    split
    ·rename_i hl
     obtain⟨g1,g2⟩:=hG b _ hb
     rw[<-hl]
     exact dN.Q2 hS .any hw g1 g2 (dK.tQ _ ih es)
    ·exact dN.cT hle _
  case pt b len i off=>
   cases hb:bw G b with
   |none=>simp only;exact dN.cT hle _
   |some q=>
    obtain⟨e,sz,d,es⟩:=q
    simp only
    split
    ·rename_i hl
     obtain⟨g1,g2⟩:=hG b _ hb
     rw[<-hl]
     exact dN.WG hS .any hw g1 g2 (dK.tQ _ ih es)
    ·exact dN.cT hle _
  case agg cs=>exact dN.agg (dK.tQ _ ih cs)
  case dO cs=>exact dN.dO (dK.tQ _ ih cs)
theorem Wk.QY {r:AV} {H:Hp} {nx:Nat} (G:Hp) (k:Nat) (hG:∀b q,bw G b=some q->bw H b=some q):Wk r H nx (Go.cp.gm G k r) (lO G H) nx:=by
 refine Wk.tell (Nat.le_refl _) (fun b e sz d es he=> ?_) (fun w0 c c2 hS hU hc hc2 hw hle hnew hM=>⟨?_,fun b e sz d es d0 es0 h1 h2=> ?_⟩)
 ·by_cases hb:b∈G.map (·.1)
  ·rw[fJ hb] at he;cases he
  ·rw[fU hb] at he
   exact .inl ⟨d,es,he,rfl⟩
 ·refine dN.gm hS hw hle (fun b q hq=> ?_) k r
  have h1:=hG b q hq
  exact⟨by rw[hc];exact h1,fun blk o z hρ=>hM b q blk o z h1 (fJ (mZ hq)) hρ⟩
 ·by_cases hb:b∈G.map (·.1)
  ·rw[fJ hb] at h1;cases h1
  ·rw[fU hb] at h1
   rw[h1] at h2;cases h2
   exact dK.cT hle _
theorem Wk.gm {H:Hp} {nx cb:Nat} {e:TypeId} {sz:Nat} {d:AV} {es:List AV} (G:Hp) (k:Nat) (d2:AV) (hcb:bw H cb=some (.row e sz d es)) (hG:∀b q,bw G b=some q->bw H b=some q):Wk .any H nx .any (lO G ((cb,some (.row e sz d2 (es.map (Go.cp.gm G k))))::H)) nx:=by
 refine Wk.tell (Nat.le_refl _) (fun b e' sz' d' es' he=> ?_) (fun w0 c c2 hS hU hc hc2 hw hle hnew hM=>⟨dN.any _ _ _,fun b e' sz' d' es' d0 es0 h1 h2=> ?_⟩)
 ·by_cases hb:b∈G.map (·.1)
  ·rw[fJ hb] at he;cases he
  ·rw[fU hb] at he
   by_cases hbc:b=cb
   ·subst hbc
    rw[ct] at he
    cases he
    exact .inl ⟨d,es,hcb,by simp⟩
   ·rw[cZ hbc] at he
    exact .inl ⟨d',es',he,rfl⟩
 ·by_cases hb:b∈G.map (·.1)
  ·rw[fJ hb] at h1;cases h1
  ·rw[fU hb] at h1
   by_cases hbc:b=cb
   ·subst hbc
    rw[ct] at h1
    rw[hcb] at h2
    cases h1;cases h2
    exact dK.tQ _ (dN.gm hS hw hle (fun b q hq=>by
     have h1:=hG b q hq
     exact⟨by rw[hc];exact h1,fun blk o z hρ=>hM b q blk o z h1 (fJ (mZ hq)) hρ⟩) k) _
   ·rw[cZ hbc] at h1
    rw[h1] at h2;cases h2
    exact dK.cT hle _
mutual
/-- No row's name in it. -/
theorem kR {G:Hp}:∀(k:Nat) {a:AV},cK 0 a->Go.cp.gm G k a=a
 |0,a,_=>rfl
 |k+1,a,h=>by
  cases a<;>rw[Go.cp.gm]<;>simp only[u5]
  case sl b len=>rw[cK] at h;omega
  case pt b len i off=>rw[cK] at h;omega
  case agg cs=>rw[cK] at h;rw[fu k h]
  case dO cs=>rw[cK] at h;rw[fu k h]
theorem fu {G:Hp}:∀(k:Nat) {cs:List AV},c8 0 cs->cs.map (Go.cp.gm G k)=cs
 |k,[],_=>rfl
 |k,a::cs,h=>by
  rw[c8] at h
  rw[List.map_cons,kR k h.1,fu k h.2]
end
theorem ma {G:Hp} {k b len:Nat} {e:TypeId} {sz:Nat} {d:AV} {es:List AV} (h:bw G b=some (.row e sz d es)) (hl:es.length=len):Go.cp.gm G (k+1) (.sl b len)= .im sz .any (es.map (Go.cp.gm G k)):=by
 rw[Go.cp.gm,u5,h];simp only;rw[if_pos hl]
theorem LP {G:Hp} {k b len i off:Nat} {e:TypeId} {sz:Nat} {d:AV} {es:List AV} (h:bw G b=some (.row e sz d es)) (hl:es.length=len):Go.cp.gm G (k+1) (.pt b len i off)= .ip sz .any (es.map (Go.cp.gm G k)) i off:=by
 rw[Go.cp.gm,u5,h];simp only;rw[if_pos hl]
theorem x6 {G:Hp} {k:Nat} {cs:List AV}:Go.cp.gm G (k+1) (.agg cs)= .agg (cs.map (Go.cp.gm G k)):=by rw[Go.cp.gm,u5]
end Go.cp
