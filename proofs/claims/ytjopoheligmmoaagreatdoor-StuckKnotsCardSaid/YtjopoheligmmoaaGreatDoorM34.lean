import Derived.Test.YtjopoheligmmoaaGreatDoorM21
import Derived.Test.YtjopoheligmmoaaGreatDoorM26
import Derived.Test.YtjopoheligmmoaaGreatDoorM28
namespace Go.cu
open Go.RowKit
set_option linter.unusedSimpArgs false
set_option linter.unusedVariables false
def vh (f:AV->AV) (G:Hp):AV->AV
 | .sl b len=>match bu G b with
  |some (.row _ sz _ es)=>if es.length=len then .im sz .any (es.map f) else .sl b len
  |none=> .sl b len
 | .pt b len i off=>match bu G b with
  |some (.row _ sz _ es)=>if es.length=len then .ip sz .any (es.map f) i off else .pt b len i off
  |none=> .pt b len i off
 | .agg cs=> .agg (cs.map f)
 | .dD cs=> .dD (cs.map f)
 |a=>a
def iT (G:Hp):Nat->AV->AV
 |0,a=>a
 |k+1,a=>vh (iT G k) G a
theorem dV.ZM {w0:World} {c c2:Cx} (hS:du w0 c) {b i off:Nat} {e:TypeId} {sz:Nat} {d:AV} {es es2:List AV} (d2:AV) (hw:c2.w=c.w) (hH:c.H b=some (.row e sz d es)) (hM:∀blk o z,c.ρ b=some (blk,o,z)->¬c2.M blk) (h:dW c c2 es es2):dV c c2 (.pt b es.length i off) (.ip sz d2 es2 i off):=by
 have hl:=h.length
 intro v hv
 rw[VR] at hv
 obtain⟨_,hi,a,rfl,hr⟩:=hv
 obtain⟨_,hr⟩:=hr _ _ _ _ hH
 obtain⟨hoff,blk,o,z,hρ,rfl⟩:=hr rfl
 obtain⟨_,hz,hrow⟩:=hS.jz b _ _ _ _ hH (.inr (by omega))
 rw[VR]
 rcases hrow with⟨hρ',_⟩|⟨blk1,o1,z1,hρ1,_,_,_,hrow⟩
 ·rw[hρ] at hρ';cases hρ'
 ·rw[hρ] at hρ1;cases hρ1
  exact⟨by omega,hoff,blk,o,rfl,hM _ _ _ hρ,h.row hw hrow⟩
theorem dV.iT {w0:World} {c c2:Cx} {G:Hp} (hS:du w0 c) (hw:c2.w=c.w) (hle:c.le c2) (hG:∀b q,bu G b=some q->c.H b=some q/\∀blk o z,c.ρ b=some (blk,o,z)->¬c2.M blk):∀(k:Nat) (a:AV),dV c c2 a (iT G k a):=by
 intro k
 induction k with
 |zero=>intro a;rw[Go.cu.iT];exact dV.c8 hle a
 |succ k ih=>
  intro a
  cases a<;>rw[Go.cu.iT]<;>simp only[vh]<;>try exact dV.c8 hle _
  case sl b len=>
   cases hb:bu G b with
   |none=>simp only;exact dV.c8 hle _
   |some q=>
    obtain⟨e,sz,d,es⟩:=q
    simp only
    split
    ·rename_i hl
     obtain⟨g1,g2⟩:=hG b _ hb
     rw[<-hl]
     exact dV.TR hS .any hw g1 g2 (dW.u9 _ ih es)
    ·exact dV.c8 hle _
  case pt b len i off=>
   cases hb:bu G b with
   |none=>simp only;exact dV.c8 hle _
   |some q=>
    obtain⟨e,sz,d,es⟩:=q
    simp only
    split
    ·rename_i hl
     obtain⟨g1,g2⟩:=hG b _ hb
     rw[<-hl]
     exact dV.ZM hS .any hw g1 g2 (dW.u9 _ ih es)
    ·exact dV.c8 hle _
  case agg cs=>exact dV.agg (dW.u9 _ ih cs)
  case dD cs=>exact dV.dD (dW.u9 _ ih cs)
theorem Wk.TN {r:AV} {H:Hp} {nx:Nat} (G:Hp) (k:Nat) (hG:∀b q,bu G b=some q->bu H b=some q):Wk r H nx (Go.cu.iT G k r) (mE G H) nx:=by
 refine Wk.tell (Nat.le_refl _) (fun b e sz d es he=> ?_) (fun w0 c c2 hS hU hc hc2 hw hle hnew hM=>⟨?_,fun b e sz d es d0 es0 h1 h2=> ?_⟩)
 ·by_cases hb:b∈G.map (·.1)
  ·rw[ff hb] at he;cases he
  ·rw[gA hb] at he
   exact .inl ⟨d,es,he,rfl⟩
 ·refine dV.iT hS hw hle (fun b q hq=> ?_) k r
  have h1:=hG b q hq
  exact⟨by rw[hc];exact h1,fun blk o z hρ=>hM b q blk o z h1 (ff (nW hq)) hρ⟩
 ·by_cases hb:b∈G.map (·.1)
  ·rw[ff hb] at h1;cases h1
  ·rw[gA hb] at h1
   rw[h1] at h2;cases h2
   exact dW.c8 hle _
theorem Wk.iT {H:Hp} {nx cb:Nat} {e:TypeId} {sz:Nat} {d:AV} {es:List AV} (G:Hp) (k:Nat) (d2:AV) (hcb:bu H cb=some (.row e sz d es)) (hG:∀b q,bu G b=some q->bu H b=some q):Wk .any H nx .any (mE G ((cb,some (.row e sz d2 (es.map (Go.cu.iT G k))))::H)) nx:=by
 refine Wk.tell (Nat.le_refl _) (fun b e' sz' d' es' he=> ?_) (fun w0 c c2 hS hU hc hc2 hw hle hnew hM=>⟨dV.any _ _ _,fun b e' sz' d' es' d0 es0 h1 h2=> ?_⟩)
 ·by_cases hb:b∈G.map (·.1)
  ·rw[ff hb] at he;cases he
  ·rw[gA hb] at he
   by_cases hbc:b=cb
   ·subst hbc
    rw[cY] at he
    cases he
    exact .inl ⟨d,es,hcb,by simp⟩
   ·rw[cN hbc] at he
    exact .inl ⟨d',es',he,rfl⟩
 ·by_cases hb:b∈G.map (·.1)
  ·rw[ff hb] at h1;cases h1
  ·rw[gA hb] at h1
   by_cases hbc:b=cb
   ·subst hbc
    rw[cY] at h1
    rw[hcb] at h2
    cases h1;cases h2
    exact dW.u9 _ (dV.iT hS hw hle (fun b q hq=>by
     have h1:=hG b q hq
     exact⟨by rw[hc];exact h1,fun blk o z hρ=>hM b q blk o z h1 (ff (nW hq)) hρ⟩) k) _
   ·rw[cN hbc] at h1
    rw[h1] at h2;cases h2
    exact dW.c8 hle _
mutual
/-- No row's name in it. -/
theorem lI {G:Hp}:∀(k:Nat) {a:AV},cK 0 a->Go.cu.iT G k a=a
 |0,a,_=>rfl
 |k+1,a,h=>by
  cases a<;>rw[Go.cu.iT]<;>simp only[vh]
  case sl b len=>rw[cK] at h;omega
  case pt b len i off=>rw[cK] at h;omega
  case agg cs=>rw[cK] at h;rw[gZ k h]
  case dD cs=>rw[cK] at h;rw[gZ k h]
theorem gZ {G:Hp}:∀(k:Nat) {cs:List AV},cX 0 cs->cs.map (Go.cu.iT G k)=cs
 |k,[],_=>rfl
 |k,a::cs,h=>by
  rw[cX] at h
  rw[List.map_cons,lI k h.1,gZ k h.2]
end
theorem nY {G:Hp} {k b len:Nat} {e:TypeId} {sz:Nat} {d:AV} {es:List AV} (h:bu G b=some (.row e sz d es)) (hl:es.length=len):Go.cu.iT G (k+1) (.sl b len)= .im sz .any (es.map (Go.cu.iT G k)):=by
 rw[Go.cu.iT,vh,h];simp only;rw[if_pos hl]
theorem N7 {G:Hp} {k b len i off:Nat} {e:TypeId} {sz:Nat} {d:AV} {es:List AV} (h:bu G b=some (.row e sz d es)) (hl:es.length=len):Go.cu.iT G (k+1) (.pt b len i off)= .ip sz .any (es.map (Go.cu.iT G k)) i off:=by
 rw[Go.cu.iT,vh,h];simp only;rw[if_pos hl]
theorem yl {G:Hp} {k:Nat} {cs:List AV}:Go.cu.iT G (k+1) (.agg cs)= .agg (cs.map (Go.cu.iT G k)):=by rw[Go.cu.iT,vh]
end Go.cu
