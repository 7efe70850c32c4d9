import Derived.Test.YtekfmjjmihomlaaGreatM20
import Derived.Test.YtekfmjjmihomlaaGreatM24
import Derived.Test.YtekfmjjmihomlaaGreatM28
section
/- Rows that are written no more, those behind pointers too, told as what is held by value. -/
namespace Go.cV
open Go.RowKit
set_option linter.unusedSimpArgs false
set_option linter.unusedVariables false
def sr (f:AV→AV) (G:Hp):AV→AV
 | .sl b len=>match bd G b with
  |some (.row _ sz _ es)=>if es.length=len then .im sz .any (es.map f) else .sl b len
  |none=> .sl b len
 | .pt b len i off=>match bd G b with
  |some (.row _ sz _ es)=>if es.length=len then .ip sz .any (es.map f) i off else .pt b len i off
  |none=> .pt b len i off
 | .agg cs=> .agg (cs.map f)
 | .dH cs=> .dH (cs.map f)
 |a=>a
def iQ (G:Hp):Nat→AV→AV
 |0,a=>a
 |k+1,a=>sr (iQ G k) G a
theorem dQ.RH {w0:World} {c c2:Cx} (hS:dZ w0 c) {b i off:Nat} {e:TypeId} {sz:Nat} {d:AV} {es es2:List AV} (d2:AV) (hw:c2.w=c.w) (hH:c.H b=some (.row e sz d es)) (hM:∀blk o z,c.ρ b=some (blk,o,z)→¬c2.M blk) (h:dA c c2 es es2):dQ c c2 (.pt b es.length i off) (.ip sz d2 es2 i off):=by
 have hl:=h.length
 intro v hv
 rw[VR] at hv
 obtain⟨_,hi,a,rfl,hr⟩:=hv
 obtain⟨_,hr⟩:=hr _ _ _ _ hH
 obtain⟨hoff,blk,o,z,hρ,rfl⟩:=hr rfl
 obtain⟨_,hz,hrow⟩:=hS.kq b _ _ _ _ hH (.inr (by omega))
 rw[VR]
 rcases hrow with⟨hρ',_⟩|⟨blk1,o1,z1,hρ1,_,_,_,hrow⟩
 ·rw[hρ] at hρ';cases hρ'
 ·rw[hρ] at hρ1;cases hρ1
  exact⟨by omega,hoff,blk,o,rfl,hM _ _ _ hρ,h.row hw hrow⟩
theorem dQ.iQ {w0:World} {c c2:Cx} {G:Hp} (hS:dZ w0 c) (hw:c2.w=c.w) (hle:c.le c2) (hG:∀b q,bd G b=some q→c.H b=some q∧∀blk o z,c.ρ b=some (blk,o,z)→¬c2.M blk):∀(k:Nat) (a:AV),dQ c c2 a (iQ G k a):=by
 intro k
 induction k with
 |zero=>intro a;rw[Go.cV.iQ];exact dQ.cO hle a
 |succ k ih=>
  intro a
  cases a<;>rw[Go.cV.iQ]<;>simp only[sr]<;>try exact dQ.cO hle _
  case sl b len=>
   cases hb:bd G b with
   |none=>simp only;exact dQ.cO hle _
   |some q=>
    obtain⟨e,sz,d,es⟩:=q
    simp only
    split
    ·rename_i hl
     obtain⟨g1,g2⟩:=hG b _ hb
     rw[←hl]
     exact dQ.PE hS .any hw g1 g2 (dA.rj _ ih es)
    ·exact dQ.cO hle _
  case pt b len i off=>
   cases hb:bd G b with
   |none=>simp only;exact dQ.cO hle _
   |some q=>
    obtain⟨e,sz,d,es⟩:=q
    simp only
    split
    ·rename_i hl
     obtain⟨g1,g2⟩:=hG b _ hb
     rw[←hl]
     exact dQ.RH hS .any hw g1 g2 (dA.rj _ ih es)
    ·exact dQ.cO hle _
  case agg cs=>exact dQ.agg (dA.rj _ ih cs)
  case dH cs=>exact dQ.dH (dA.rj _ ih cs)
theorem Wk.iQ {H:Hp} {nx cb:Nat} {e:TypeId} {sz:Nat} {d:AV} {es:List AV} (G:Hp) (k:Nat) (d2:AV) (hcb:bd H cb=some (.row e sz d es)) (hG:∀b q,bd G b=some q→bd H b=some q):Wk .any H nx .any (mK G ((cb,some (.row e sz d2 (es.map (Go.cV.iQ G k))))::H)) nx:=by
 refine Wk.tell (Nat.le_refl _) (fun b e' sz' d' es' he=> ?_) (fun w0 c c2 hS hU hc hc2 hw hle hnew hM=>⟨dQ.any _ _ _,fun b e' sz' d' es' d0 es0 h1 h2=> ?_⟩)
 ·by_cases hb:b∈G.map (·.1)
  ·rw[fw hb] at he;cases he
  ·rw[gJ hb] at he
   by_cases hbc:b=cb
   ·subst hbc
    rw[cI] at he
    cases he
    exact .inl ⟨d,es,hcb,by simp⟩
   ·rw[bz hbc] at he
    exact .inl ⟨d',es',he,rfl⟩
 ·by_cases hb:b∈G.map (·.1)
  ·rw[fw hb] at h1;cases h1
  ·rw[gJ hb] at h1
   by_cases hbc:b=cb
   ·subst hbc
    rw[cI] at h1
    rw[hcb] at h2
    cases h1;cases h2
    exact dA.rj _ (dQ.iQ hS hw hle (fun b q hq=>by
     have h1:=hG b q hq
     exact⟨by rw[hc];exact h1,fun blk o z hρ=>hM b q blk o z h1 (fw (nW hq)) hρ⟩) k) _
   ·rw[bz hbc] at h1
    rw[h1] at h2;cases h2
    exact dA.cO hle _
mutual
/-- No row's name in it. -/
theorem jv {G:Hp}:∀(k:Nat) {a:AV},bw 0 a→Go.cV.iQ G k a=a
 |0,a,_=>rfl
 |k+1,a,h=>by
  cases a<;>rw[Go.cV.iQ]<;>simp only[sr]
  case sl b len=>rw[bw] at h;omega
  case pt b len i off=>rw[bw] at h;omega
  case agg cs=>rw[bw] at h;rw[fj k h]
  case dH cs=>rw[bw] at h;rw[fj k h]
theorem fj {G:Hp}:∀(k:Nat) {cs:List AV},cP 0 cs→cs.map (Go.cV.iQ G k)=cs
 |k,[],_=>rfl
 |k,a::cs,h=>by
  rw[cP] at h
  rw[List.map_cons,jv k h.1,fj k h.2]
end
theorem lj {G:Hp} {k b len:Nat} {e:TypeId} {sz:Nat} {d:AV} {es:List AV} (h:bd G b=some (.row e sz d es)) (hl:es.length=len):Go.cV.iQ G (k+1) (.sl b len)= .im sz .any (es.map (Go.cV.iQ G k)):=by
 rw[Go.cV.iQ,sr,h];simp only;rw[if_pos hl]
theorem J6 {G:Hp} {k b len i off:Nat} {e:TypeId} {sz:Nat} {d:AV} {es:List AV} (h:bd G b=some (.row e sz d es)) (hl:es.length=len):Go.cV.iQ G (k+1) (.pt b len i off)= .ip sz .any (es.map (Go.cV.iQ G k)) i off:=by
 rw[Go.cV.iQ,sr,h];simp only;rw[if_pos hl]
theorem vd {G:Hp} {k:Nat} {cs:List AV}:Go.cV.iQ G (k+1) (.agg cs)= .agg (cs.map (Go.cV.iQ G k)):=by rw[Go.cV.iQ,sr]
end Go.cV
end
