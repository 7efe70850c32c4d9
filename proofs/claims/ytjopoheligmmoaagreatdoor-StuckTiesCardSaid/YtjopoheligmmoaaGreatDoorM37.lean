import Derived.Test.YtjopoheligmmoaaGreatDoorM21
import Derived.Test.YtjopoheligmmoaaGreatDoorM25
import Derived.Test.YtjopoheligmmoaaGreatDoorM30
section
/- Rows that are written no more, those behind pointers too, told as what is held by value. -/
namespace Go.cY
open Go.RowKit
set_option linter.unusedSimpArgs false
set_option linter.unusedVariables false
def uf (f:AV→AV) (G:Hp):AV→AV
 | .sl b len=>match bt G b with
  |some (.row _ sz _ es)=>if es.length=len then .im sz .any (es.map f) else .sl b len
  |none=> .sl b len
 | .pt b len i off=>match bt G b with
  |some (.row _ sz _ es)=>if es.length=len then .ip sz .any (es.map f) i off else .pt b len i off
  |none=> .pt b len i off
 | .agg cs=> .agg (cs.map f)
 | .dP cs=> .dP (cs.map f)
 |a=>a
def gl (G:Hp):Nat→AV→AV
 |0,a=>a
 |k+1,a=>uf (gl G k) G a
theorem dO.ipS {w0:World} {c c2:Cx} (hS:dY w0 c) {b i off:Nat} {e:TypeId} {sz:Nat} {d:AV} {es es2:List AV} (d2:AV) (hw:c2.w=c.w) (hH:c.H b=some (.row e sz d es)) (hM:∀blk o z,c.ρ b=some (blk,o,z)→¬c2.M blk) (h:dK c c2 es es2):dO c c2 (.pt b es.length i off) (.ip sz d2 es2 i off):=by
 have hl:=h.length
 intro v hv
 rw[VR] at hv
 obtain⟨_,hi,a,rfl,hr⟩:=hv
 obtain⟨_,hr⟩:=hr _ _ _ _ hH
 obtain⟨hoff,blk,o,z,hρ,rfl⟩:=hr rfl
 obtain⟨_,hz,hrow⟩:=hS.jU b _ _ _ _ hH (.inr (by omega))
 rw[VR]
 rcases hrow with⟨hρ',_⟩|⟨blk1,o1,z1,hρ1,_,_,_,hrow⟩
 ·rw[hρ] at hρ';cases hρ'
 ·rw[hρ] at hρ1;cases hρ1
  exact⟨by omega,hoff,blk,o,rfl,hM _ _ _ hρ,h.row hw hrow⟩
theorem dO.gl {w0:World} {c c2:Cx} {G:Hp} (hS:dY w0 c) (hw:c2.w=c.w) (hle:c.le c2) (hG:∀b q,bt G b=some q→c.H b=some q∧∀blk o z,c.ρ b=some (blk,o,z)→¬c2.M blk):∀(k:Nat) (a:AV),dO c c2 a (gl G k a):=by
 intro k
 induction k with
 |zero=>intro a;rw[Go.cY.gl];exact dO.cQ hle a
 |succ k ih=>
  intro a
  cases a<;>rw[Go.cY.gl]<;>simp only[uf]<;>try exact dO.cQ hle _
  case sl b len=>
   cases hb:bt G b with
   |none=>simp only;exact dO.cQ hle _
   |some q=>
    obtain⟨e,sz,d,es⟩:=q
    simp only
    split
    ·rename_i hl
     obtain⟨g1,g2⟩:=hG b _ hb
     rw[←hl]
     exact dO.X2 hS .any hw g1 g2 (dK.tX _ ih es)
    ·exact dO.cQ hle _
  case pt b len i off=>
   cases hb:bt G b with
   |none=>simp only;exact dO.cQ hle _
   |some q=>
    obtain⟨e,sz,d,es⟩:=q
    simp only
    split
    ·rename_i hl
     obtain⟨g1,g2⟩:=hG b _ hb
     rw[←hl]
     exact dO.ipS hS .any hw g1 g2 (dK.tX _ ih es)
    ·exact dO.cQ hle _
  case agg cs=>exact dO.agg (dK.tX _ ih cs)
  case dP cs=>exact dO.dP (dK.tX _ ih cs)
theorem Wk.XX {r:AV} {H:Hp} {nx:Nat} (G:Hp) (k:Nat) (hG:∀b q,bt G b=some q→bt H b=some q):Wk r H nx (Go.cY.gl G k r) (lP G H) nx:=by
 refine Wk.tell (Nat.le_refl _) (fun b e sz d es he=> ?_) (fun w0 c c2 hS hU hc hc2 hw hle hnew hM=>⟨?_,fun b e sz d es d0 es0 h1 h2=> ?_⟩)
 ·by_cases hb:b∈G.map (·.1)
  ·rw[fK hb] at he;cases he
  ·rw[fU hb] at he
   exact .inl ⟨d,es,he,rfl⟩
 ·refine dO.gl hS hw hle (fun b q hq=> ?_) k r
  have h1:=hG b q hq
  exact⟨by rw[hc];exact h1,fun blk o z hρ=>hM b q blk o z h1 (fK (mg hq)) hρ⟩
 ·by_cases hb:b∈G.map (·.1)
  ·rw[fK hb] at h1;cases h1
  ·rw[fU hb] at h1
   rw[h1] at h2;cases h2
   exact dK.cQ hle _
theorem Wk.gl {H:Hp} {nx cb:Nat} {e:TypeId} {sz:Nat} {d:AV} {es:List AV} (G:Hp) (k:Nat) (d2:AV) (hcb:bt H cb=some (.row e sz d es)) (hG:∀b q,bt G b=some q→bt H b=some q):Wk .any H nx .any (lP G ((cb,some (.row e sz d2 (es.map (Go.cY.gl G k))))::H)) nx:=by
 refine Wk.tell (Nat.le_refl _) (fun b e' sz' d' es' he=> ?_) (fun w0 c c2 hS hU hc hc2 hw hle hnew hM=>⟨dO.any _ _ _,fun b e' sz' d' es' d0 es0 h1 h2=> ?_⟩)
 ·by_cases hb:b∈G.map (·.1)
  ·rw[fK hb] at he;cases he
  ·rw[fU hb] at he
   by_cases hbc:b=cb
   ·subst hbc
    rw[cp] at he
    cases he
    exact .inl ⟨d,es,hcb,by simp⟩
   ·rw[cX hbc] at he
    exact .inl ⟨d',es',he,rfl⟩
 ·by_cases hb:b∈G.map (·.1)
  ·rw[fK hb] at h1;cases h1
  ·rw[fU hb] at h1
   by_cases hbc:b=cb
   ·subst hbc
    rw[cp] at h1
    rw[hcb] at h2
    cases h1;cases h2
    exact dK.tX _ (dO.gl hS hw hle (fun b q hq=>by
     have h1:=hG b q hq
     exact⟨by rw[hc];exact h1,fun blk o z hρ=>hM b q blk o z h1 (fK (mg hq)) hρ⟩) k) _
   ·rw[cX hbc] at h1
    rw[h1] at h2;cases h2
    exact dK.cQ hle _
mutual
/-- No row's name in it. -/
theorem kR {G:Hp}:∀(k:Nat) {a:AV},cK 0 a→Go.cY.gl G k a=a
 |0,a,_=>rfl
 |k+1,a,h=>by
  cases a<;>rw[Go.cY.gl]<;>simp only[uf]
  case sl b len=>rw[cK] at h;omega
  case pt b len i off=>rw[cK] at h;omega
  case agg cs=>rw[cK] at h;rw[ft k h]
  case dP cs=>rw[cK] at h;rw[ft k h]
theorem ft {G:Hp}:∀(k:Nat) {cs:List AV},cZ 0 cs→cs.map (Go.cY.gl G k)=cs
 |k,[],_=>rfl
 |k,a::cs,h=>by
  rw[cZ] at h
  rw[List.map_cons,kR k h.1,ft k h.2]
end
theorem mh {G:Hp} {k b len:Nat} {e:TypeId} {sz:Nat} {d:AV} {es:List AV} (h:bt G b=some (.row e sz d es)) (hl:es.length=len):Go.cY.gl G (k+1) (.sl b len)= .im sz .any (es.map (Go.cY.gl G k)):=by
 rw[Go.cY.gl,uf,h];simp only;rw[if_pos hl]
theorem RE {G:Hp} {k b len i off:Nat} {e:TypeId} {sz:Nat} {d:AV} {es:List AV} (h:bt G b=some (.row e sz d es)) (hl:es.length=len):Go.cY.gl G (k+1) (.pt b len i off)= .ip sz .any (es.map (Go.cY.gl G k)) i off:=by
 rw[Go.cY.gl,uf,h];simp only;rw[if_pos hl]
theorem xx {G:Hp} {k:Nat} {cs:List AV}:Go.cY.gl G (k+1) (.agg cs)= .agg (cs.map (Go.cY.gl G k)):=by rw[Go.cY.gl,uf]
end Go.cY
end
