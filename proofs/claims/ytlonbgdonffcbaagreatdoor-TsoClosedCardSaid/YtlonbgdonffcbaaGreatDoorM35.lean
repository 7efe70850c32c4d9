import Derived.Test.YtlonbgdonffcbaaGreatDoorM33
import Derived.Test.YtlonbgdonffcbaaGreatDoorM29
import Derived.Test.YtlonbgdonffcbaaGreatDoorM28
section
/- Rows that are written no more, those behind pointers too, told as what is held by value. -/
namespace Go.cW
open Go.RowKit
set_option linter.unusedSimpArgs false
set_option linter.unusedVariables false
def sR (f:AV→AV) (G:Hp):AV→AV
 | .sl b len=>match bd G b with
  |some (.row _ sz _ es)=>if es.length=len then .im sz .any (es.map f) else .sl b len
  |none=> .sl b len
 | .pt b len i off=>match bd G b with
  |some (.row _ sz _ es)=>if es.length=len then .ip sz .any (es.map f) i off else .pt b len i off
  |none=> .pt b len i off
 | .agg cs=> .agg (cs.map f)
 | .dD cs=> .dD (cs.map f)
 |a=>a
def fx (G:Hp):Nat→AV→AV
 |0,a=>a
 |k+1,a=>sR (fx G k) G a
theorem c8.PW {w0:World} {c c2:Cx} (hS:cu w0 c) {b i off:Nat} {e:TypeId} {sz:Nat} {d:AV} {es es2:List AV} (d2:AV) (hw:c2.w=c.w) (hH:c.H b=some (.row e sz d es)) (hM:∀blk o z,c.ρ b=some (blk,o,z)→¬c2.M blk) (h:cz c c2 es es2):c8 c c2 (.pt b es.length i off) (.ip sz d2 es2 i off):=by
 have hl:=h.length
 intro v hv
 rw[VR] at hv
 obtain⟨_,hi,a,rfl,hr⟩:=hv
 obtain⟨_,hr⟩:=hr _ _ _ _ hH
 obtain⟨hoff,blk,o,z,hρ,rfl⟩:=hr rfl
 obtain⟨_,hz,hrow⟩:=hS.jh b _ _ _ _ hH (.inr (by omega))
 rw[VR]
 rcases hrow with⟨hρ',_⟩|⟨blk1,o1,z1,hρ1,_,_,_,hrow⟩
 ·rw[hρ] at hρ';cases hρ'
 ·rw[hρ] at hρ1;cases hρ1
  exact⟨by omega,hoff,blk,o,rfl,hM _ _ _ hρ,h.row hw hrow⟩
theorem c8.fx {w0:World} {c c2:Cx} {G:Hp} (hS:cu w0 c) (hw:c2.w=c.w) (hle:c.le c2) (hG:∀b q,bd G b=some q→c.H b=some q∧∀blk o z,c.ρ b=some (blk,o,z)→¬c2.M blk):∀(k:Nat) (a:AV),c8 c c2 a (fx G k a):=by
 intro k
 induction k with
 |zero=>intro a;rw[Go.cW.fx];exact c8.cL hle a
 |succ k ih=>
  intro a
  cases a<;>rw[Go.cW.fx]<;>simp only[sR]<;>try exact c8.cL hle _
  case sl b len=>
   cases hb:bd G b with
   |none=>simp only;exact c8.cL hle _
   |some q=>
    obtain⟨e,sz,d,es⟩:=q
    simp only
    split
    ·rename_i hl
     obtain⟨g1,g2⟩:=hG b _ hb
     rw[←hl]
     exact c8.NZ hS .any hw g1 g2 (cz.rH _ ih es)
    ·exact c8.cL hle _
  case pt b len i off=>
   cases hb:bd G b with
   |none=>simp only;exact c8.cL hle _
   |some q=>
    obtain⟨e,sz,d,es⟩:=q
    simp only
    split
    ·rename_i hl
     obtain⟨g1,g2⟩:=hG b _ hb
     rw[←hl]
     exact c8.PW hS .any hw g1 g2 (cz.rH _ ih es)
    ·exact c8.cL hle _
  case agg cs=>exact c8.agg (cz.rH _ ih cs)
  case dD cs=>exact c8.dD (cz.rH _ ih cs)
theorem Wk.NW {r:AV} {H:Hp} {nx:Nat} (G:Hp) (k:Nat) (hG:∀b q,bd G b=some q→bd H b=some q):Wk r H nx (Go.cW.fx G k r) (l8 G H) nx:=by
 refine Wk.tell (Nat.le_refl _) (fun b e sz d es he=> ?_) (fun w0 c c2 hS hU hc hc2 hw hle hnew hM=>⟨?_,fun b e sz d es d0 es0 h1 h2=> ?_⟩)
 ·by_cases hb:b∈G.map (·.1)
  ·rw[fX hb] at he;cases he
  ·rw[fh hb] at he
   exact .inl ⟨d,es,he,rfl⟩
 ·refine c8.fx hS hw hle (fun b q hq=> ?_) k r
  have h1:=hG b q hq
  exact⟨by rw[hc];exact h1,fun blk o z hρ=>hM b q blk o z h1 (fX (mf hq)) hρ⟩
 ·by_cases hb:b∈G.map (·.1)
  ·rw[fX hb] at h1;cases h1
  ·rw[fh hb] at h1
   rw[h1] at h2;cases h2
   exact cz.cL hle _
theorem Wk.fx {H:Hp} {nx cb:Nat} {e:TypeId} {sz:Nat} {d:AV} {es:List AV} (G:Hp) (k:Nat) (d2:AV) (hcb:bd H cb=some (.row e sz d es)) (hG:∀b q,bd G b=some q→bd H b=some q):Wk .any H nx .any (l8 G ((cb,some (.row e sz d2 (es.map (Go.cW.fx G k))))::H)) nx:=by
 refine Wk.tell (Nat.le_refl _) (fun b e' sz' d' es' he=> ?_) (fun w0 c c2 hS hU hc hc2 hw hle hnew hM=>⟨c8.any _ _ _,fun b e' sz' d' es' d0 es0 h1 h2=> ?_⟩)
 ·by_cases hb:b∈G.map (·.1)
  ·rw[fX hb] at he;cases he
  ·rw[fh hb] at he
   by_cases hbc:b=cb
   ·subst hbc
    rw[cK] at he
    cases he
    exact .inl ⟨d,es,hcb,by simp⟩
   ·rw[bh hbc] at he
    exact .inl ⟨d',es',he,rfl⟩
 ·by_cases hb:b∈G.map (·.1)
  ·rw[fX hb] at h1;cases h1
  ·rw[fh hb] at h1
   by_cases hbc:b=cb
   ·subst hbc
    rw[cK] at h1
    rw[hcb] at h2
    cases h1;cases h2
    exact cz.rH _ (c8.fx hS hw hle (fun b q hq=>by
     have h1:=hG b q hq
     exact⟨by rw[hc];exact h1,fun blk o z hρ=>hM b q blk o z h1 (fX (mf hq)) hρ⟩) k) _
   ·rw[bh hbc] at h1
    rw[h1] at h2;cases h2
    exact cz.cL hle _
mutual
/-- No row's name in it. -/
theorem fZ {G:Hp}:∀(k:Nat) {a:AV},cC 0 a→Go.cW.fx G k a=a
 |0,a,_=>rfl
 |k+1,a,h=>by
  cases a<;>rw[Go.cW.fx]<;>simp only[sR]
  case sl b len=>rw[cC] at h;omega
  case pt b len i off=>rw[cC] at h;omega
  case agg cs=>rw[cC] at h;rw[gT k h]
  case dD cs=>rw[cC] at h;rw[gT k h]
theorem gT {G:Hp}:∀(k:Nat) {cs:List AV},cG 0 cs→cs.map (Go.cW.fx G k)=cs
 |k,[],_=>rfl
 |k,a::cs,h=>by
  rw[cG] at h
  rw[List.map_cons,fZ k h.1,gT k h.2]
end
theorem pH {G:Hp} {k b len:Nat} {e:TypeId} {sz:Nat} {d:AV} {es:List AV} (h:bd G b=some (.row e sz d es)) (hl:es.length=len):Go.cW.fx G (k+1) (.sl b len)= .im sz .any (es.map (Go.cW.fx G k)):=by
 rw[Go.cW.fx,sR,h];simp only;rw[if_pos hl]
theorem IQ {G:Hp} {k b len i off:Nat} {e:TypeId} {sz:Nat} {d:AV} {es:List AV} (h:bd G b=some (.row e sz d es)) (hl:es.length=len):Go.cW.fx G (k+1) (.pt b len i off)= .ip sz .any (es.map (Go.cW.fx G k)) i off:=by
 rw[Go.cW.fx,sR,h];simp only;rw[if_pos hl]
theorem qK {G:Hp} {k:Nat} {cs:List AV}:Go.cW.fx G (k+1) (.agg cs)= .agg (cs.map (Go.cW.fx G k)):=by rw[Go.cW.fx,sR]
end Go.cW
end
