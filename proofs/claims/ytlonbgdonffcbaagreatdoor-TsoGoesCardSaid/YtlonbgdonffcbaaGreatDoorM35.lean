import Derived.Test.YtlonbgdonffcbaaGreatDoorM33
import Derived.Test.YtlonbgdonffcbaaGreatDoorM29
import Derived.Test.YtlonbgdonffcbaaGreatDoorM28
section
/- Rows that are written no more, those behind pointers too, told as what is held by value. -/
namespace Go.cY
open Go.RowKit
set_option linter.unusedSimpArgs false
set_option linter.unusedVariables false
def sx (f:AV→AV) (G:Hp):AV→AV
 | .sl b len=>match bf G b with
  |some (.row _ sz _ es)=>if es.length=len then .im sz .any (es.map f) else .sl b len
  |none=> .sl b len
 | .pt b len i off=>match bf G b with
  |some (.row _ sz _ es)=>if es.length=len then .ip sz .any (es.map f) i off else .pt b len i off
  |none=> .pt b len i off
 | .agg cs=> .agg (cs.map f)
 | .dB cs=> .dB (cs.map f)
 |a=>a
def gF (G:Hp):Nat→AV→AV
 |0,a=>a
 |k+1,a=>sx (gF G k) G a
theorem cc.QZ {w0:World} {c c2:Cx} (hS:dA w0 c) {b i off:Nat} {e:TypeId} {sz:Nat} {d:AV} {es es2:List AV} (d2:AV) (hw:c2.w=c.w) (hH:c.H b=some (.row e sz d es)) (hM:∀blk o z,c.ρ b=some (blk,o,z)→¬c2.M blk) (h:dF c c2 es es2):cc c c2 (.pt b es.length i off) (.ip sz d2 es2 i off):=by
 have hl:=h.length
 intro v hv
 rw[VR] at hv
 obtain⟨_,hi,a,rfl,hr⟩:=hv
 obtain⟨_,hr⟩:=hr _ _ _ _ hH
 obtain⟨hoff,blk,o,z,hρ,rfl⟩:=hr rfl
 obtain⟨_,hz,hrow⟩:=hS.jr b _ _ _ _ hH (.inr (by omega))
 rw[VR]
 rcases hrow with⟨hρ',_⟩|⟨blk1,o1,z1,hρ1,_,_,_,hrow⟩
 ·rw[hρ] at hρ';cases hρ'
 ·rw[hρ] at hρ1;cases hρ1
  exact⟨by omega,hoff,blk,o,rfl,hM _ _ _ hρ,h.row hw hrow⟩
theorem cc.gF {w0:World} {c c2:Cx} {G:Hp} (hS:dA w0 c) (hw:c2.w=c.w) (hle:c.le c2) (hG:∀b q,bf G b=some q→c.H b=some q∧∀blk o z,c.ρ b=some (blk,o,z)→¬c2.M blk):∀(k:Nat) (a:AV),cc c c2 a (gF G k a):=by
 intro k
 induction k with
 |zero=>intro a;rw[Go.cY.gF];exact cc.cP hle a
 |succ k ih=>
  intro a
  cases a<;>rw[Go.cY.gF]<;>simp only[sx]<;>try exact cc.cP hle _
  case sl b len=>
   cases hb:bf G b with
   |none=>simp only;exact cc.cP hle _
   |some q=>
    obtain⟨e,sz,d,es⟩:=q
    simp only
    split
    ·rename_i hl
     obtain⟨g1,g2⟩:=hG b _ hb
     rw[←hl]
     exact cc.OY hS .any hw g1 g2 (dF.rp _ ih es)
    ·exact cc.cP hle _
  case pt b len i off=>
   cases hb:bf G b with
   |none=>simp only;exact cc.cP hle _
   |some q=>
    obtain⟨e,sz,d,es⟩:=q
    simp only
    split
    ·rename_i hl
     obtain⟨g1,g2⟩:=hG b _ hb
     rw[←hl]
     exact cc.QZ hS .any hw g1 g2 (dF.rp _ ih es)
    ·exact cc.cP hle _
  case agg cs=>exact cc.agg (dF.rp _ ih cs)
  case dB cs=>exact cc.dB (dF.rp _ ih cs)
theorem Wk.OV {r:AV} {H:Hp} {nx:Nat} (G:Hp) (k:Nat) (hG:∀b q,bf G b=some q→bf H b=some q):Wk r H nx (Go.cY.gF G k r) (lu G H) nx:=by
 refine Wk.tell (Nat.le_refl _) (fun b e sz d es he=> ?_) (fun w0 c c2 hS hU hc hc2 hw hle hnew hM=>⟨?_,fun b e sz d es d0 es0 h1 h2=> ?_⟩)
 ·by_cases hb:b∈G.map (·.1)
  ·rw[fc hb] at he;cases he
  ·rw[fp hb] at he
   exact .inl ⟨d,es,he,rfl⟩
 ·refine cc.gF hS hw hle (fun b q hq=> ?_) k r
  have h1:=hG b q hq
  exact⟨by rw[hc];exact h1,fun blk o z hρ=>hM b q blk o z h1 (fc (nG hq)) hρ⟩
 ·by_cases hb:b∈G.map (·.1)
  ·rw[fc hb] at h1;cases h1
  ·rw[fp hb] at h1
   rw[h1] at h2;cases h2
   exact dF.cP hle _
theorem Wk.gF {H:Hp} {nx cb:Nat} {e:TypeId} {sz:Nat} {d:AV} {es:List AV} (G:Hp) (k:Nat) (d2:AV) (hcb:bf H cb=some (.row e sz d es)) (hG:∀b q,bf G b=some q→bf H b=some q):Wk .any H nx .any (lu G ((cb,some (.row e sz d2 (es.map (Go.cY.gF G k))))::H)) nx:=by
 refine Wk.tell (Nat.le_refl _) (fun b e' sz' d' es' he=> ?_) (fun w0 c c2 hS hU hc hc2 hw hle hnew hM=>⟨cc.any _ _ _,fun b e' sz' d' es' d0 es0 h1 h2=> ?_⟩)
 ·by_cases hb:b∈G.map (·.1)
  ·rw[fc hb] at he;cases he
  ·rw[fp hb] at he
   by_cases hbc:b=cb
   ·subst hbc
    rw[cN] at he
    cases he
    exact .inl ⟨d,es,hcb,by simp⟩
   ·rw[bj hbc] at he
    exact .inl ⟨d',es',he,rfl⟩
 ·by_cases hb:b∈G.map (·.1)
  ·rw[fc hb] at h1;cases h1
  ·rw[fp hb] at h1
   by_cases hbc:b=cb
   ·subst hbc
    rw[cN] at h1
    rw[hcb] at h2
    cases h1;cases h2
    exact dF.rp _ (cc.gF hS hw hle (fun b q hq=>by
     have h1:=hG b q hq
     exact⟨by rw[hc];exact h1,fun blk o z hρ=>hM b q blk o z h1 (fc (nG hq)) hρ⟩) k) _
   ·rw[bj hbc] at h1
    rw[h1] at h2;cases h2
    exact dF.cP hle _
mutual
/-- No row's name in it. -/
theorem ff {G:Hp}:∀(k:Nat) {a:AV},cB 0 a→Go.cY.gF G k a=a
 |0,a,_=>rfl
 |k+1,a,h=>by
  cases a<;>rw[Go.cY.gF]<;>simp only[sx]
  case sl b len=>rw[cB] at h;omega
  case pt b len i off=>rw[cB] at h;omega
  case agg cs=>rw[cB] at h;rw[gm k h]
  case dB cs=>rw[cB] at h;rw[gm k h]
theorem gm {G:Hp}:∀(k:Nat) {cs:List AV},cJ 0 cs→cs.map (Go.cY.gF G k)=cs
 |k,[],_=>rfl
 |k,a::cs,h=>by
  rw[cJ] at h
  rw[List.map_cons,ff k h.1,gm k h.2]
end
theorem p0 {G:Hp} {k b len:Nat} {e:TypeId} {sz:Nat} {d:AV} {es:List AV} (h:bf G b=some (.row e sz d es)) (hl:es.length=len):Go.cY.gF G (k+1) (.sl b len)= .im sz .any (es.map (Go.cY.gF G k)):=by
 rw[Go.cY.gF,sx,h];simp only;rw[if_pos hl]
theorem JQ {G:Hp} {k b len i off:Nat} {e:TypeId} {sz:Nat} {d:AV} {es:List AV} (h:bf G b=some (.row e sz d es)) (hl:es.length=len):Go.cY.gF G (k+1) (.pt b len i off)= .ip sz .any (es.map (Go.cY.gF G k)) i off:=by
 rw[Go.cY.gF,sx,h];simp only;rw[if_pos hl]
theorem qd {G:Hp} {k:Nat} {cs:List AV}:Go.cY.gF G (k+1) (.agg cs)= .agg (cs.map (Go.cY.gF G k)):=by rw[Go.cY.gF,sx]
end Go.cY
end
