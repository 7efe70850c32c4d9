import Derived.Test.YtekfmjjmihomlaaGreatDoorM20
import Derived.Test.YtekfmjjmihomlaaGreatDoorM27
import Derived.Test.YtekfmjjmihomlaaGreatDoorM34
namespace Go.cw
open Go.RowKit
set_option linter.unusedSimpArgs false
set_option linter.unusedVariables false
def wX (f:AV->AV) (G:Hp):AV->AV
 | .sl b len=>match bo G b with
  |some (.row _ sz _ es)=>if es.length=len then .im sz .any (es.map f) else .sl b len
  |none=> .sl b len
 | .pt b len i off=>match bo G b with
  |some (.row _ sz _ es)=>if es.length=len then .ip sz .any (es.map f) i off else .pt b len i off
  |none=> .pt b len i off
 | .agg cs=> .agg (cs.map f)
 | .df cs=> .df (cs.map f)
 |a=>a
def jQ (G:Hp):Nat->AV->AV
 |0,a=>a
 |k+1,a=>wX (jQ G k) G a
theorem da.Z2 {w0:World} {c c2:Cx} (hS:du w0 c) {b i off:Nat} {e:TypeId} {sz:Nat} {d:AV} {es es2:List AV} (d2:AV) (hw:c2.w=c.w) (hH:c.H b=some (.row e sz d es)) (hM:∀blk o z,c.ρ b=some (blk,o,z)->¬c2.M blk) (h:dL c c2 es es2):da c c2 (.pt b es.length i off) (.ip sz d2 es2 i off):=by
 have hl:=h.length
 intro v hv
 rw[VR] at hv
 obtain⟨_,hi,a,rfl,hr⟩:=hv
 obtain⟨_,hr⟩:=hr _ _ _ _ hH
 obtain⟨hoff,blk,o,z,hρ,rfl⟩:=hr rfl
 obtain⟨_,hz,hrow⟩:=hS.mD b _ _ _ _ hH (.inr (by omega))
 rw[VR]
 rcases hrow with⟨hρ',_⟩|⟨blk1,o1,z1,hρ1,_,_,_,hrow⟩
 ·rw[hρ] at hρ';cases hρ'
 ·rw[hρ] at hρ1;cases hρ1
  exact⟨by omega,hoff,blk,o,rfl,hM _ _ _ hρ,h.row hw hrow⟩
theorem da.jQ {w0:World} {c c2:Cx} {G:Hp} (hS:du w0 c) (hw:c2.w=c.w) (hle:c.le c2) (hG:∀b q,bo G b=some q->c.H b=some q/\∀blk o z,c.ρ b=some (blk,o,z)->¬c2.M blk):∀(k:Nat) (a:AV),da c c2 a (jQ G k a):=by
 intro k
 induction k with
 |zero=>intro a;rw[Go.cw.jQ];exact da.keep hle a
 |succ k ih=>
  intro a
  cases a<;>rw[Go.cw.jQ]<;>simp only[wX]<;>try exact da.keep hle _
  case sl b len=>
   cases hb:bo G b with
   |none=>simp only;exact da.keep hle _
   |some q=>
    obtain⟨e,sz,d,es⟩:=q
    simp only
    split
    ·rename_i hl
     obtain⟨g1,g2⟩:=hG b _ hb
     rw[<-hl]
     exact da.XV hS .any hw g1 g2 (dL.vV _ ih es)
    ·exact da.keep hle _
  case pt b len i off=>
   cases hb:bo G b with
   |none=>simp only;exact da.keep hle _
   |some q=>
    obtain⟨e,sz,d,es⟩:=q
    simp only
    split
    ·rename_i hl
     obtain⟨g1,g2⟩:=hG b _ hb
     rw[<-hl]
     exact da.Z2 hS .any hw g1 g2 (dL.vV _ ih es)
    ·exact da.keep hle _
  case agg cs=>exact da.agg (dL.vV _ ih cs)
  case df cs=>exact da.df (dL.vV _ ih cs)
theorem Wk.jQ {H:Hp} {nx cb:Nat} {e:TypeId} {sz:Nat} {d:AV} {es:List AV} (G:Hp) (k:Nat) (d2:AV) (hcb:bo H cb=some (.row e sz d es)) (hG:∀b q,bo G b=some q->bo H b=some q):Wk .any H nx .any (oM G ((cb,some (.row e sz d2 (es.map (Go.cw.jQ G k))))::H)) nx:=by
 refine Wk.tell (Nat.le_refl _) (fun b e' sz' d' es' he=> ?_) (fun w0 c c2 hS hU hc hc2 hw hle hnew hM=>⟨da.any _ _ _,fun b e' sz' d' es' d0 es0 h1 h2=> ?_⟩)
 ·by_cases hb:b∈G.map (·.1)
  ·rw[gY hb] at he;cases he
  ·rw[iB hb] at he
   by_cases hbc:b=cb
   ·subst hbc
    rw[cq] at he
    cases he
    exact .inl ⟨d,es,hcb,by simp⟩
   ·rw[cX hbc] at he
    exact .inl ⟨d',es',he,rfl⟩
 ·by_cases hb:b∈G.map (·.1)
  ·rw[gY hb] at h1;cases h1
  ·rw[iB hb] at h1
   by_cases hbc:b=cb
   ·subst hbc
    rw[cq] at h1
    rw[hcb] at h2
    cases h1;cases h2
    exact dL.vV _ (da.jQ hS hw hle (fun b q hq=>by
     have h1:=hG b q hq
     exact⟨by rw[hc];exact h1,fun blk o z hρ=>hM b q blk o z h1 (gY (pe hq)) hρ⟩) k) _
   ·rw[cX hbc] at h1
    rw[h1] at h2;cases h2
    exact dL.keep hle _
mutual
/-- No row's name in it. -/
theorem lJ {G:Hp}:∀(k:Nat) {a:AV},cF 0 a->Go.cw.jQ G k a=a
 |0,a,_=>rfl
 |k+1,a,h=>by
  cases a<;>rw[Go.cw.jQ]<;>simp only[wX]
  case sl b len=>rw[cF] at h;omega
  case pt b len i off=>rw[cF] at h;omega
  case agg cs=>rw[cF] at h;rw[gT k h]
  case df cs=>rw[cF] at h;rw[gT k h]
theorem gT {G:Hp}:∀(k:Nat) {cs:List AV},cT 0 cs->cs.map (Go.cw.jQ G k)=cs
 |k,[],_=>rfl
 |k,a::cs,h=>by
  rw[cT] at h
  rw[List.map_cons,lJ k h.1,gT k h.2]
end
theorem ng {G:Hp} {k b len:Nat} {e:TypeId} {sz:Nat} {d:AV} {es:List AV} (h:bo G b=some (.row e sz d es)) (hl:es.length=len):Go.cw.jQ G (k+1) (.sl b len)= .im sz .any (es.map (Go.cw.jQ G k)):=by
 rw[Go.cw.jQ,wX,h];simp only;rw[if_pos hl]
theorem SC {G:Hp} {k b len i off:Nat} {e:TypeId} {sz:Nat} {d:AV} {es:List AV} (h:bo G b=some (.row e sz d es)) (hl:es.length=len):Go.cw.jQ G (k+1) (.pt b len i off)= .ip sz .any (es.map (Go.cw.jQ G k)) i off:=by
 rw[Go.cw.jQ,wX,h];simp only;rw[if_pos hl]
theorem z8 {G:Hp} {k:Nat} {cs:List AV}:Go.cw.jQ G (k+1) (.agg cs)= .agg (cs.map (Go.cw.jQ G k)):=by rw[Go.cw.jQ,wX]
end Go.cw
