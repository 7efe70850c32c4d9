import Derived.Test.YtekfmjjmihomlaaGreatM20
import Derived.Test.YtekfmjjmihomlaaGreatM24
import Derived.Test.YtekfmjjmihomlaaGreatM28
section
/- Rows that are written no more, those behind pointers too, told as what is held by value. -/
namespace Go.cO
open Go.RowKit
set_option linter.unusedSimpArgs false
set_option linter.unusedVariables false
def qe (f:AV→AV) (G:Hp):AV→AV
 | .sl b len=>match bd G b with
  |some (.row _ sz _ es)=>if es.length=len then .im sz .any (es.map f) else .sl b len
  |none=> .sl b len
 | .pt b len i off=>match bd G b with
  |some (.row _ sz _ es)=>if es.length=len then .ip sz .any (es.map f) i off else .pt b len i off
  |none=> .pt b len i off
 | .agg cs=> .agg (cs.map f)
 | .db cs=> .db (cs.map f)
 |a=>a
def fq (G:Hp):Nat→AV→AV
 |0,a=>a
 |k+1,a=>qe (fq G k) G a
theorem dA.N0 {w0:World} {c c2:Cx} (hS:dC w0 c) {b i off:Nat} {e:TypeId} {sz:Nat} {d:AV} {es es2:List AV} (d2:AV) (hw:c2.w=c.w) (hH:c.H b=some (.row e sz d es)) (hM:∀blk o z,c.ρ b=some (blk,o,z)→¬c2.M blk) (h:cj c c2 es es2):dA c c2 (.pt b es.length i off) (.ip sz d2 es2 i off):=by
 have hl:=h.length
 intro v hv
 rw[VR] at hv
 obtain⟨_,hi,a,rfl,hr⟩:=hv
 obtain⟨_,hr⟩:=hr _ _ _ _ hH
 obtain⟨hoff,blk,o,z,hρ,rfl⟩:=hr rfl
 obtain⟨_,hz,hrow⟩:=hS.jb b _ _ _ _ hH (.inr (by omega))
 rw[VR]
 rcases hrow with⟨hρ',_⟩|⟨blk1,o1,z1,hρ1,_,_,_,hrow⟩
 ·rw[hρ] at hρ';cases hρ'
 ·rw[hρ] at hρ1;cases hρ1
  exact⟨by omega,hoff,blk,o,rfl,hM _ _ _ hρ,h.row hw hrow⟩
theorem dA.fq {w0:World} {c c2:Cx} {G:Hp} (hS:dC w0 c) (hw:c2.w=c.w) (hle:c.le c2) (hG:∀b q,bd G b=some q→c.H b=some q∧∀blk o z,c.ρ b=some (blk,o,z)→¬c2.M blk):∀(k:Nat) (a:AV),dA c c2 a (fq G k a):=by
 intro k
 induction k with
 |zero=>intro a;rw[Go.cO.fq];exact dA.cE hle a
 |succ k ih=>
  intro a
  cases a<;>rw[Go.cO.fq]<;>simp only[qe]<;>try exact dA.cE hle _
  case sl b len=>
   cases hb:bd G b with
   |none=>simp only;exact dA.cE hle _
   |some q=>
    obtain⟨e,sz,d,es⟩:=q
    simp only
    split
    ·rename_i hl
     obtain⟨g1,g2⟩:=hG b _ hb
     rw[←hl]
     exact dA.LN hS .any hw g1 g2 (cj.po _ ih es)
    ·exact dA.cE hle _
  case pt b len i off=>
   cases hb:bd G b with
   |none=>simp only;exact dA.cE hle _
   |some q=>
    obtain⟨e,sz,d,es⟩:=q
    simp only
    split
    ·rename_i hl
     obtain⟨g1,g2⟩:=hG b _ hb
     rw[←hl]
     exact dA.N0 hS .any hw g1 g2 (cj.po _ ih es)
    ·exact dA.cE hle _
  case agg cs=>exact dA.agg (cj.po _ ih cs)
  case db cs=>exact dA.db (cj.po _ ih cs)
theorem Wk.LH {r:AV} {H:Hp} {nx:Nat} (G:Hp) (k:Nat) (hG:∀b q,bd G b=some q→bd H b=some q):Wk r H nx (Go.cO.fq G k r) (j5 G H) nx:=by
 refine Wk.tell (Nat.le_refl _) (fun b e sz d es he=> ?_) (fun w0 c c2 hS hU hc hc2 hw hle hnew hM=>⟨?_,fun b e sz d es d0 es0 h1 h2=> ?_⟩)
 ·by_cases hb:b∈G.map (·.1)
  ·rw[eM hb] at he;cases he
  ·rw[eY hb] at he
   exact .inl ⟨d,es,he,rfl⟩
 ·refine dA.fq hS hw hle (fun b q hq=> ?_) k r
  have h1:=hG b q hq
  exact⟨by rw[hc];exact h1,fun blk o z hρ=>hM b q blk o z h1 (eM (kO hq)) hρ⟩
 ·by_cases hb:b∈G.map (·.1)
  ·rw[eM hb] at h1;cases h1
  ·rw[eY hb] at h1
   rw[h1] at h2;cases h2
   exact cj.cE hle _
theorem Wk.fq {H:Hp} {nx cb:Nat} {e:TypeId} {sz:Nat} {d:AV} {es:List AV} (G:Hp) (k:Nat) (d2:AV) (hcb:bd H cb=some (.row e sz d es)) (hG:∀b q,bd G b=some q→bd H b=some q):Wk .any H nx .any (j5 G ((cb,some (.row e sz d2 (es.map (Go.cO.fq G k))))::H)) nx:=by
 refine Wk.tell (Nat.le_refl _) (fun b e' sz' d' es' he=> ?_) (fun w0 c c2 hS hU hc hc2 hw hle hnew hM=>⟨dA.any _ _ _,fun b e' sz' d' es' d0 es0 h1 h2=> ?_⟩)
 ·by_cases hb:b∈G.map (·.1)
  ·rw[eM hb] at he;cases he
  ·rw[eY hb] at he
   by_cases hbc:b=cb
   ·subst hbc
    rw[cT] at he
    cases he
    exact .inl ⟨d,es,hcb,by simp⟩
   ·rw[cF hbc] at he
    exact .inl ⟨d',es',he,rfl⟩
 ·by_cases hb:b∈G.map (·.1)
  ·rw[eM hb] at h1;cases h1
  ·rw[eY hb] at h1
   by_cases hbc:b=cb
   ·subst hbc
    rw[cT] at h1
    rw[hcb] at h2
    cases h1;cases h2
    exact cj.po _ (dA.fq hS hw hle (fun b q hq=>by
     have h1:=hG b q hq
     exact⟨by rw[hc];exact h1,fun blk o z hρ=>hM b q blk o z h1 (eM (kO hq)) hρ⟩) k) _
   ·rw[cF hbc] at h1
    rw[h1] at h2;cases h2
    exact cj.cE hle _
mutual
/-- No row's name in it. -/
theorem iw {G:Hp}:∀(k:Nat) {a:AV},bx 0 a→Go.cO.fq G k a=a
 |0,a,_=>rfl
 |k+1,a,h=>by
  cases a<;>rw[Go.cO.fq]<;>simp only[qe]
  case sl b len=>rw[bx] at h;omega
  case pt b len i off=>rw[bx] at h;omega
  case agg cs=>rw[bx] at h;rw[eo k h]
  case db cs=>rw[bx] at h;rw[eo k h]
theorem eo {G:Hp}:∀(k:Nat) {cs:List AV},cK 0 cs→cs.map (Go.cO.fq G k)=cs
 |k,[],_=>rfl
 |k,a::cs,h=>by
  rw[cK] at h
  rw[List.map_cons,iw k h.1,eo k h.2]
end
theorem kP {G:Hp} {k b len:Nat} {e:TypeId} {sz:Nat} {d:AV} {es:List AV} (h:bd G b=some (.row e sz d es)) (hl:es.length=len):Go.cO.fq G (k+1) (.sl b len)= .im sz .any (es.map (Go.cO.fq G k)):=by
 rw[Go.cO.fq,qe,h];simp only;rw[if_pos hl]
theorem F1 {G:Hp} {k b len i off:Nat} {e:TypeId} {sz:Nat} {d:AV} {es:List AV} (h:bd G b=some (.row e sz d es)) (hl:es.length=len):Go.cO.fq G (k+1) (.pt b len i off)= .ip sz .any (es.map (Go.cO.fq G k)) i off:=by
 rw[Go.cO.fq,qe,h];simp only;rw[if_pos hl]
theorem tv {G:Hp} {k:Nat} {cs:List AV}:Go.cO.fq G (k+1) (.agg cs)= .agg (cs.map (Go.cO.fq G k)):=by rw[Go.cO.fq,qe]
end Go.cO
end
