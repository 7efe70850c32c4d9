import Derived.Test.YtjopoheligmmoaaGreatDoorM21
import Derived.Test.YtjopoheligmmoaaGreatDoorM26
import Derived.Test.YtjopoheligmmoaaGreatDoorM28
namespace Go.cw
open Go.RowKit
set_option linter.unusedSimpArgs false
set_option linter.unusedVariables false
def wv (f:AV->AV) (G:Hp):AV->AV
 | .sl b len=>match bt G b with
  |some (.row _ sz _ es)=>if es.length=len then .im sz .any (es.map f) else .sl b len
  |none=> .sl b len
 | .pt b len i off=>match bt G b with
  |some (.row _ sz _ es)=>if es.length=len then .ip sz .any (es.map f) i off else .pt b len i off
  |none=> .pt b len i off
 | .agg cs=> .agg (cs.map f)
 | .dI cs=> .dI (cs.map f)
 |a=>a
def jB (G:Hp):Nat->AV->AV
 |0,a=>a
 |k+1,a=>wv (jB G k) G a
theorem db.ipS {w0:World} {c c2:Cx} (hS:dy w0 c) {b i off:Nat} {e:TypeId} {sz:Nat} {d:AV} {es es2:List AV} (d2:AV) (hw:c2.w=c.w) (hH:c.H b=some (.row e sz d es)) (hM:∀blk o z,c.ρ b=some (blk,o,z)->¬c2.M blk) (h:dW c c2 es es2):db c c2 (.pt b es.length i off) (.ip sz d2 es2 i off):=by
 have hl:=h.length
 intro v hv
 rw[VR] at hv
 obtain⟨_,hi,a,rfl,hr⟩:=hv
 obtain⟨_,hr⟩:=hr _ _ _ _ hH
 obtain⟨hoff,blk,o,z,hρ,rfl⟩:=hr rfl
 obtain⟨_,hz,hrow⟩:=hS.kO b _ _ _ _ hH (.inr (by omega))
 rw[VR]
 rcases hrow with⟨hρ',_⟩|⟨blk1,o1,z1,hρ1,_,_,_,hrow⟩
 ·rw[hρ] at hρ';cases hρ'
 ·rw[hρ] at hρ1;cases hρ1
  exact⟨by omega,hoff,blk,o,rfl,hM _ _ _ hρ,h.row hw hrow⟩
theorem db.jB {w0:World} {c c2:Cx} {G:Hp} (hS:dy w0 c) (hw:c2.w=c.w) (hle:c.le c2) (hG:∀b q,bt G b=some q->c.H b=some q/\∀blk o z,c.ρ b=some (blk,o,z)->¬c2.M blk):∀(k:Nat) (a:AV),db c c2 a (jB G k a):=by
 intro k
 induction k with
 |zero=>intro a;rw[Go.cw.jB];exact db.cc hle a
 |succ k ih=>
  intro a
  cases a<;>rw[Go.cw.jB]<;>simp only[wv]<;>try exact db.cc hle _
  case sl b len=>
   cases hb:bt G b with
   |none=>simp only;exact db.cc hle _
   |some q=>
    obtain⟨e,sz,d,es⟩:=q
    simp only
    split
    ·rename_i hl
     obtain⟨g1,g2⟩:=hG b _ hb
     rw[<-hl]
     exact db.WG hS .any hw g1 g2 (dW.vr _ ih es)
    ·exact db.cc hle _
  case pt b len i off=>
   cases hb:bt G b with
   |none=>simp only;exact db.cc hle _
   |some q=>
    obtain⟨e,sz,d,es⟩:=q
    simp only
    split
    ·rename_i hl
     obtain⟨g1,g2⟩:=hG b _ hb
     rw[<-hl]
     exact db.ipS hS .any hw g1 g2 (dW.vr _ ih es)
    ·exact db.cc hle _
  case agg cs=>exact db.agg (dW.vr _ ih cs)
  case dI cs=>exact db.dI (dW.vr _ ih cs)
theorem Wk.V8 {r:AV} {H:Hp} {nx:Nat} (G:Hp) (k:Nat) (hG:∀b q,bt G b=some q->bt H b=some q):Wk r H nx (Go.cw.jB G k r) (mj G H) nx:=by
 refine Wk.tell (Nat.le_refl _) (fun b e sz d es he=> ?_) (fun w0 c c2 hS hU hc hc2 hw hle hnew hM=>⟨?_,fun b e sz d es d0 es0 h1 h2=> ?_⟩)
 ·by_cases hb:b∈G.map (·.1)
  ·rw[fw hb] at he;cases he
  ·rw[gN hb] at he
   exact .inl ⟨d,es,he,rfl⟩
 ·refine db.jB hS hw hle (fun b q hq=> ?_) k r
  have h1:=hG b q hq
  exact⟨by rw[hc];exact h1,fun blk o z hρ=>hM b q blk o z h1 (fw (oM hq)) hρ⟩
 ·by_cases hb:b∈G.map (·.1)
  ·rw[fw hb] at h1;cases h1
  ·rw[gN hb] at h1
   rw[h1] at h2;cases h2
   exact dW.cc hle _
theorem Wk.jB {H:Hp} {nx cb:Nat} {e:TypeId} {sz:Nat} {d:AV} {es:List AV} (G:Hp) (k:Nat) (d2:AV) (hcb:bt H cb=some (.row e sz d es)) (hG:∀b q,bt G b=some q->bt H b=some q):Wk .any H nx .any (mj G ((cb,some (.row e sz d2 (es.map (Go.cw.jB G k))))::H)) nx:=by
 refine Wk.tell (Nat.le_refl _) (fun b e' sz' d' es' he=> ?_) (fun w0 c c2 hS hU hc hc2 hw hle hnew hM=>⟨db.any _ _ _,fun b e' sz' d' es' d0 es0 h1 h2=> ?_⟩)
 ·by_cases hb:b∈G.map (·.1)
  ·rw[fw hb] at he;cases he
  ·rw[gN hb] at he
   by_cases hbc:b=cb
   ·subst hbc
    rw[ca] at he
    cases he
    exact .inl ⟨d,es,hcb,by simp⟩
   ·rw[cN hbc] at he
    exact .inl ⟨d',es',he,rfl⟩
 ·by_cases hb:b∈G.map (·.1)
  ·rw[fw hb] at h1;cases h1
  ·rw[gN hb] at h1
   by_cases hbc:b=cb
   ·subst hbc
    rw[ca] at h1
    rw[hcb] at h2
    cases h1;cases h2
    exact dW.vr _ (db.jB hS hw hle (fun b q hq=>by
     have h1:=hG b q hq
     exact⟨by rw[hc];exact h1,fun blk o z hρ=>hM b q blk o z h1 (fw (oM hq)) hρ⟩) k) _
   ·rw[cN hbc] at h1
    rw[h1] at h2;cases h2
    exact dW.cc hle _
mutual
/-- No row's name in it. -/
theorem l9 {G:Hp}:∀(k:Nat) {a:AV},cH 0 a->Go.cw.jB G k a=a
 |0,a,_=>rfl
 |k+1,a,h=>by
  cases a<;>rw[Go.cw.jB]<;>simp only[wv]
  case sl b len=>rw[cH] at h;omega
  case pt b len i off=>rw[cH] at h;omega
  case agg cs=>rw[cH] at h;rw[gu k h]
  case dI cs=>rw[cH] at h;rw[gu k h]
theorem gu {G:Hp}:∀(k:Nat) {cs:List AV},c8 0 cs->cs.map (Go.cw.jB G k)=cs
 |k,[],_=>rfl
 |k,a::cs,h=>by
  rw[c8] at h
  rw[List.map_cons,l9 k h.1,gu k h.2]
end
theorem oO {G:Hp} {k b len:Nat} {e:TypeId} {sz:Nat} {d:AV} {es:List AV} (h:bt G b=some (.row e sz d es)) (hl:es.length=len):Go.cw.jB G (k+1) (.sl b len)= .im sz .any (es.map (Go.cw.jB G k)):=by
 rw[Go.cw.jB,wv,h];simp only;rw[if_pos hl]
theorem QQ {G:Hp} {k b len i off:Nat} {e:TypeId} {sz:Nat} {d:AV} {es:List AV} (h:bt G b=some (.row e sz d es)) (hl:es.length=len):Go.cw.jB G (k+1) (.pt b len i off)= .ip sz .any (es.map (Go.cw.jB G k)) i off:=by
 rw[Go.cw.jB,wv,h];simp only;rw[if_pos hl]
theorem zp {G:Hp} {k:Nat} {cs:List AV}:Go.cw.jB G (k+1) (.agg cs)= .agg (cs.map (Go.cw.jB G k)):=by rw[Go.cw.jB,wv]
end Go.cw
