import Derived.Test.YtekfmjjmihomlaaGreatM20
import Derived.Test.YtekfmjjmihomlaaGreatM24
import Derived.Test.YtekfmjjmihomlaaGreatM28
section
/- Rows that are written no more, those behind pointers too, told as what is held by value. -/
namespace Go.cZ
open Go.RowKit
set_option linter.unusedSimpArgs false
set_option linter.unusedVariables false
def ta (f:AV→AV) (G:Hp):AV→AV
 | .sl b len=>match bn G b with
  |some (.row _ sz _ es)=>if es.length=len then .im sz .any (es.map f) else .sl b len
  |none=> .sl b len
 | .pt b len i off=>match bn G b with
  |some (.row _ sz _ es)=>if es.length=len then .ip sz .any (es.map f) i off else .pt b len i off
  |none=> .pt b len i off
 | .agg cs=> .agg (cs.map f)
 | .dV cs=> .dV (cs.map f)
 |a=>a
def iU (G:Hp):Nat→AV→AV
 |0,a=>a
 |k+1,a=>ta (iU G k) G a
theorem dZ.SU {w0:World} {c c2:Cx} (hS:dn w0 c) {b i off:Nat} {e:TypeId} {sz:Nat} {d:AV} {es es2:List AV} (d2:AV) (hw:c2.w=c.w) (hH:c.H b=some (.row e sz d es)) (hM:∀blk o z,c.ρ b=some (blk,o,z)→¬c2.M blk) (h:dI c c2 es es2):dZ c c2 (.pt b es.length i off) (.ip sz d2 es2 i off):=by
 have hl:=h.length
 intro v hv
 rw[VR] at hv
 obtain⟨_,hi,a,rfl,hr⟩:=hv
 obtain⟨_,hr⟩:=hr _ _ _ _ hH
 obtain⟨hoff,blk,o,z,hρ,rfl⟩:=hr rfl
 obtain⟨_,hz,hrow⟩:=hS.kz b _ _ _ _ hH (.inr (by omega))
 rw[VR]
 rcases hrow with⟨hρ',_⟩|⟨blk1,o1,z1,hρ1,_,_,_,hrow⟩
 ·rw[hρ] at hρ';cases hρ'
 ·rw[hρ] at hρ1;cases hρ1
  exact⟨by omega,hoff,blk,o,rfl,hM _ _ _ hρ,h.row hw hrow⟩
theorem dZ.iU {w0:World} {c c2:Cx} {G:Hp} (hS:dn w0 c) (hw:c2.w=c.w) (hle:c.le c2) (hG:∀b q,bn G b=some q→c.H b=some q∧∀blk o z,c.ρ b=some (blk,o,z)→¬c2.M blk):∀(k:Nat) (a:AV),dZ c c2 a (iU G k a):=by
 intro k
 induction k with
 |zero=>intro a;rw[Go.cZ.iU];exact dZ.cS hle a
 |succ k ih=>
  intro a
  cases a<;>rw[Go.cZ.iU]<;>simp only[ta]<;>try exact dZ.cS hle _
  case sl b len=>
   cases hb:bn G b with
   |none=>simp only;exact dZ.cS hle _
   |some q=>
    obtain⟨e,sz,d,es⟩:=q
    simp only
    split
    ·rename_i hl
     obtain⟨g1,g2⟩:=hG b _ hb
     rw[←hl]
     exact dZ.QO hS .any hw g1 g2 (dI.sU _ ih es)
    ·exact dZ.cS hle _
  case pt b len i off=>
   cases hb:bn G b with
   |none=>simp only;exact dZ.cS hle _
   |some q=>
    obtain⟨e,sz,d,es⟩:=q
    simp only
    split
    ·rename_i hl
     obtain⟨g1,g2⟩:=hG b _ hb
     rw[←hl]
     exact dZ.SU hS .any hw g1 g2 (dI.sU _ ih es)
    ·exact dZ.cS hle _
  case agg cs=>exact dZ.agg (dI.sU _ ih cs)
  case dV cs=>exact dZ.dV (dI.sU _ ih cs)
theorem Wk.iU {H:Hp} {nx cb:Nat} {e:TypeId} {sz:Nat} {d:AV} {es:List AV} (G:Hp) (k:Nat) (d2:AV) (hcb:bn H cb=some (.row e sz d es)) (hG:∀b q,bn G b=some q→bn H b=some q):Wk .any H nx .any (ma G ((cb,some (.row e sz d2 (es.map (Go.cZ.iU G k))))::H)) nx:=by
 refine Wk.tell (Nat.le_refl _) (fun b e' sz' d' es' he=> ?_) (fun w0 c c2 hS hU hc hc2 hw hle hnew hM=>⟨dZ.any _ _ _,fun b e' sz' d' es' d0 es0 h1 h2=> ?_⟩)
 ·by_cases hb:b∈G.map (·.1)
  ·rw[gD hb] at he;cases he
  ·rw[gS hb] at he
   by_cases hbc:b=cb
   ·subst hbc
    rw[cO] at he
    cases he
    exact .inl ⟨d,es,hcb,by simp⟩
   ·rw[cG hbc] at he
    exact .inl ⟨d',es',he,rfl⟩
 ·by_cases hb:b∈G.map (·.1)
  ·rw[gD hb] at h1;cases h1
  ·rw[gS hb] at h1
   by_cases hbc:b=cb
   ·subst hbc
    rw[cO] at h1
    rw[hcb] at h2
    cases h1;cases h2
    exact dI.sU _ (dZ.iU hS hw hle (fun b q hq=>by
     have h1:=hG b q hq
     exact⟨by rw[hc];exact h1,fun blk o z hρ=>hM b q blk o z h1 (gD (ny hq)) hρ⟩) k) _
   ·rw[cG hbc] at h1
    rw[h1] at h2;cases h2
    exact dI.cS hle _
mutual
/-- No row's name in it. -/
theorem kF {G:Hp}:∀(k:Nat) {a:AV},cE 0 a→Go.cZ.iU G k a=a
 |0,a,_=>rfl
 |k+1,a,h=>by
  cases a<;>rw[Go.cZ.iU]<;>simp only[ta]
  case sl b len=>rw[cE] at h;omega
  case pt b len i off=>rw[cE] at h;omega
  case agg cs=>rw[cE] at h;rw[fq k h]
  case dV cs=>rw[cE] at h;rw[fq k h]
theorem fq {G:Hp}:∀(k:Nat) {cs:List AV},cT 0 cs→cs.map (Go.cZ.iU G k)=cs
 |k,[],_=>rfl
 |k,a::cs,h=>by
  rw[cT] at h
  rw[List.map_cons,kF k h.1,fq k h.2]
end
theorem mD {G:Hp} {k b len:Nat} {e:TypeId} {sz:Nat} {d:AV} {es:List AV} (h:bn G b=some (.row e sz d es)) (hl:es.length=len):Go.cZ.iU G (k+1) (.sl b len)= .im sz .any (es.map (Go.cZ.iU G k)):=by
 rw[Go.cZ.iU,ta,h];simp only;rw[if_pos hl]
theorem LH {G:Hp} {k b len i off:Nat} {e:TypeId} {sz:Nat} {d:AV} {es:List AV} (h:bn G b=some (.row e sz d es)) (hl:es.length=len):Go.cZ.iU G (k+1) (.pt b len i off)= .ip sz .any (es.map (Go.cZ.iU G k)) i off:=by
 rw[Go.cZ.iU,ta,h];simp only;rw[if_pos hl]
theorem wP {G:Hp} {k:Nat} {cs:List AV}:Go.cZ.iU G (k+1) (.agg cs)= .agg (cs.map (Go.cZ.iU G k)):=by rw[Go.cZ.iU,ta]
end Go.cZ
end
