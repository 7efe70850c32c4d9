import Derived.Test.YtekfmjjmihomlaaGreatM8
section
/- Small rules. -/
namespace Go.cZ
def QB (P:Program) (n lo:Nat) (y:LC) (Q:QT) (fr:Fr) (H:Hp) (nx:Nat):Prop:=WL P n lo y fr H nx Q
theorem WL.cont {P:Program} {n lo:Nat} {y:LC} {fr:Fr} {H:Hp} {nx:Nat} {Q:QT} (h:WL P n lo y fr H nx Q):QB P n lo y Q fr H nx:=h
theorem rk (a b:AV):oT true a b=a:=by unfold oT;split<;>rfl
theorem pc (a b:AV):oT false a b=b:=by unfold oT;split<;>rfl
theorem WL.OH {P:Program} {n lo:Nat} {fr:Fr} {H:Hp} {nx:Nat} {Q:QT} {c:eB} {x y:LC} (hc:ev fr c= .ab) (h1:WL P n lo x fr H nx Q) (h2:WL P n lo y fr H nx Q):WL P n lo (.cond c x y) fr H nx Q:=by
 intro code hcode w0 M0 c0 a w hh
 have:∃c' c1 c2,code= .cond c' c1 c2∧cL c'=some c∧cy P n c1=some x∧cy P n c2=some y:=by
  cases code<;>simp only[cy] at hcode
  case cond c' c1 c2=>
   split at hcode
   ·rename_i c'' x' y' g1 g2 g3
    simp only[Option.some.injEq,LC.cond.injEq] at hcode
    obtain⟨rfl,rfl,rfl⟩:=hcode
    exact⟨c',c1,c2,rfl,g1,g2,g3⟩
   ·simp at hcode
  all_goals (exfalso;repeat' (split at hcode))<;>simp at hcode
 obtain⟨c',c1,c2,rfl,g1,g2,g3⟩:=this
 have hh':=hh
 obtain⟨_,_,ρ,U,_,_,hF,_⟩:=hh'
 have hv:=gC hF g1
 rw[hc,VR] at hv
 obtain⟨t,hv⟩:=hv
 exact wp_cond_split hv (fun _=>h1 c1 g2 w0 M0 c0 a w hh) (fun _=>h2 c2 g3 w0 M0 c0 a w hh)
end Go.cZ
/- A run that is reckoned out by the kernel: all that is known is known for sure. -/
namespace Go.cZ
open Go.RowKit
abbrev CF:=FuncId→List AV→Hp→Nat→Option (AV×Hp×Nat)
def N0 (F:CF) (nx:Nat) (fr:Fr) (H:Hp) (op:dQ):Option (AV×Hp×Nat):=
 match op with
 | .call f args=>match ev fr f with
  | .fn (.func g) first caps=>F g (first++pV fr args++caps) H nx
  |_=>none
 |op=>match cD nx fr H op with
  |some p=>some (p.1,dK H p.2,nx+1)
  |none=>none
def vM {α:Type} (fr:Fr) (g:Option (Nat×Bool)) (A B:Option α):Option α:=
 match g with
 |none=>A
 |some (d,want)=>match ca fr d with
  | .sc (.bool t)=>if t=want then A else B
  | .sc _=>B
  |_=>none
def AR (F:CF):List gM→Fr→Hp→Nat→Option (Fr×Hp×Nat)
 |[],fr,H,nx=>some (fr,H,nx)
 |g::rest,fr,H,nx=>vM fr g.guard
  (match N0 F nx fr H g.op with
   |some (r,H',nx')=>AR F rest (fN fr g.dst r) H' nx'
   |none=>none)
  (AR F rest (fN fr g.dst (.sc undef)) H (nx+1))
/-! The same where the order is drawn: a call there must be one that only looks. -/
mutual
def jj:AV→Bool
 | .sc _| .any| .zc=>true
 | .im _ _ es=>lC es
 | .ip _ _ es _ _=>lC es
 | .sl _ _| .pt _ _ _ _| .mp _| .sv _ _ _ _=>false
 | .ab=>true
 | .agg cs=>lC cs
 | .dV cs=>lC cs
 | .fn _ p q=>lC p&&lC q
 | .lY _ x=>jj x
def lC:List AV→Bool
 |[]=>true
 |a::r=>jj a&&lC r
end
def AS (F:CF) (id:Nat) (fr:Fr) (H:Hp) (op:dQ):Option (AV×Option (Nat×eV)):=
 match op with
 | .call f args=>match ev fr f with
  | .fn (.func g) first caps=>if lC (first++pV fr args++caps) then
   (match F g (first++pV fr args++caps) [] 0 with
    |some (.sl b n,H',_)=>(match bn H' b with
     |some (.row e sz d es)=>if es.length=n∧lC es=true then some (.sl id n,some (id, .row e sz d es)) else none
     |none=>none)
    |some (r,H',_)=>if jj (dX H' 6 r) then some (dX H' 6 r,none) else none
    |none=>none) else none
  |_=>none
 |op=>cD id fr H op
def PO (fr:Fr) (op:dQ):List Nat:=match op with
 | .call _ _=>[]
 |op=>eQ fr op
def F3 (s t:List Nat×Option Nat):Bool:=
 (match s.2 with|some b=> !t.1.contains b|none=>true)&&(match t.2 with|some b=> !s.1.contains b|none=>true)&&(match s.2,t.2 with|some b,some b'=>b != b'|_,_=>true)
def uF (F:CF):Nat→List gM→Fr→Hp→Tr→Option (Fr×Hp×Tr)
 |_,[],fr,H,tr=>some (fr,H,tr)
 |id,g::rest,fr,H,tr=>vM fr g.guard
  (match AS F id fr H g.op with
   |some (r,u)=>uF F (id+1) rest (fN fr g.dst r) (dK H u) (tr++[(PO fr g.op,u.map (·.1))])
   |none=>none)
  (uF F (id+1) rest (fN fr g.dst (.sc undef)) H (tr++[([],none)]))
def sK (F:CF):List pn→Fr→Hp→Nat→Option (Fr×Hp×Nat)
 |[],fr,H,nx=>some (fr,H,nx)
 |s::r,fr,H,nx=>match s.ops with
  |[g]=>(match AR F [g] fr H nx with
   |some (fr',H',nx')=>sK F r fr' H' nx'
   |none=>none)
  |gs=>match uF F nx gs fr H [] with
   |some (fr',H',tr)=>if s.ps.all (fun p=>F3 (tr.getD p.1 ([],none)) (tr.getD p.2 ([],none))) then sK F r fr' H' (nx+gs.length) else none
   |none=>none
/-! Rows that are of no more use are laid aside. -/
mutual
def QN:AV→List Nat
 | .sl b _=>[b]
 | .pt b _ _ _=>[b]
 | .mp b=>[b]
 | .sv b _ _ _=>[b]
 | .agg cs=>oG cs
 | .dV cs=>oG cs
 | .fn _ p q=>oG p++oG q
 | .lY _ x=>QN x
 |_=>[]
def oG:List AV→List Nat
 |[]=>[]
 |a::r=>QN a++oG r
end
def QM:Option eV→List Nat
 |some (.row _ _ _ es)=>oG es
 |none=>[]
def closure (H:Hp):Nat→List Nat→List Nat→List Nat
 |0,_,seen=>seen
 |_,[],seen=>seen
 |k+1,b::todo,seen=>if seen.contains b then closure H k todo seen else closure H k (QM (bn H b)++todo) (b::seen)
def pr (cS:Nat→Bool):List Nat→Hp→Hp
 |_,[]=>[]
 |seen,(b,k)::r=>if seen.contains b then pr cS seen r else if cS b then(b,k)::pr cS (b::seen) r else pr cS (b::seen) r
def NW:List Nat→Fr→Fr
 |_,[]=>[]
 |seen,(b,k)::r=>if seen.contains b then NW seen r else(b,k)::NW (b::seen) r
def zY (nx0:Nat):Hp→List Nat
 |[]=>[]
 |(b,k)::r=>if b<nx0 then QM k++zY nx0 r else zY nx0 r
def gc (nx0:Nat) (roots:List Nat) (H:Hp):Hp:=
 let live:=closure H 2000 (roots++zY nx0 H) []
 pr (fun b=>decide (b<nx0)||live.contains b) [] H
def xZ (f:Fr→Hp→Nat→Option (Ex×Fr×Hp×Nat)) (nx0:Nat):Nat→Fr→Hp→Nat→Option (Ex×Fr×Hp×Nat)
 |0,_,_,_=>none
 |k+1,fr,H,nx=>match f fr H nx with
  |some (.normal,fr',H',nx')=>xZ f nx0 k (NW [] fr') (gc nx0 (oG ((NW [] fr').map (·.2))) H') nx'
  |x=>x
def iB (F:CF) (nx0:Nat):LC→Fr→Hp→Nat→Option (Ex×Fr×Hp×Nat)
 | .skip,fr,H,nx=>some (.normal,fr,H,nx)
 | .region ops,fr,H,nx=>match AR F ops fr H nx with
  |some (fr',H',nx')=>some (.normal,fr',H',nx')
  |none=>none
 | .drawn segs,fr,H,nx=>match sK F segs fr H nx with
  |some (fr',H',nx')=>some (.normal,fr',H',nx')
  |none=>none
 | .seq a b,fr,H,nx=>match iB F nx0 a fr H nx with
  |some (.normal,fr',H',nx')=>iB F nx0 b fr' H' nx'
  |x=>x
 | .cond c a b,fr,H,nx=>match ev fr c with
  | .sc (.bool t)=>if t then iB F nx0 a fr H nx else iB F nx0 b fr H nx
  |_=>none
 | .block id a,fr,H,nx=>match iB F nx0 a fr H nx with
  |some (.exit id',fr',H',nx')=>if id'=id then some (.normal,fr',H',nx') else some (.exit id',fr',H',nx')
  |x=>x
 | .loop a,fr,H,nx=>xZ (iB F nx0 a) nx0 100000 fr H nx
 | .exit id,fr,H,nx=>some (.exit id,fr,H,nx)
 | .ret,fr,H,nx=>some (.ret,fr,H,nx)
structure LF where
 f:FuncId
 n:Nat
 lc:LC
 res:List jr
 fz:Bool
def GC:List LF→FuncId→Option LF
 |[],_=>none
 |e::r,f=>if e.f=f then some e else GC r f
def uE (T:List LF):Nat→CF
 |0,_,_,_,_=>none
 |k+1,f,args,H,nx=>match GC T f with
  |some e=>if args.length≤e.n then
   if e.fz then
    (if lC args then
     (match iB (uE T k) 0 e.lc (j6 0 args) [] 0 with
      |some (.exit _,_,_,_)=>none
      |some (_,fr',H',_)=>match iu fr' H' e.res with
       |some rs=>if jj (dX H' 6 (pack rs)) then some (dX H' 6 (pack rs),H,nx) else none
       |none=>none
      |none=>none) else none) else
   (match iB (uE T k) nx e.lc (j6 0 args) H nx with
    |some (.exit _,_,_,_)=>none
    |some (_,fr',H',nx')=>match iu fr' H' e.res with
     |some rs=>some (pack rs,gc nx (oG rs) H',nx')
     |none=>none
    |none=>none) else none
  |none=>none
/-! ## It is so. -/
def Ok (P:Program) (F:CF):Prop:=∀f args H nx r H' nx',F f args H nx=some (r,H',nx')→cP P f args H nx (fun r1 H1 nx1=>r1=r∧H1=H'∧nx1=nx')
theorem pk {α:Type} {fr:Fr} {g:Option (Nat×Bool)} {A B:Option α} {x:α} (h:vM fr g A B=some x) {PA PB:Prop} (ha:A=some x→PA) (hb:B=some x→PB):dL fr g PA PB:=by
 unfold vM at h
 unfold dL
 split
 ·simp only at h;exact ha h
 ·simp only at h
  split
  ·rename_i t ht;rw[ht] at h;simp only at h
   split at h
   ·rename_i e;rw[if_pos e];exact ha h
   ·rename_i e;rw[if_neg e];exact hb h
  ·rename_i u hu ht
   rw[ht] at h
   split at h
   ·rename_i t' he;cases he;exact absurd rfl (hu _)
   ·exact hb h
   ·simp at h
  ·rename_i h1 h2
   split at h
   ·rename_i t' he;exact absurd he (h1 _)
   ·rename_i he;exact absurd he (h2 _)
   ·simp at h
theorem kP {P:Program} {F:CF} (hF:Ok P F):∀{gs:List gM} {fr:Fr} {H:Hp} {nx:Nat} {fr':Fr} {H':Hp} {nx':Nat},AR F gs fr H nx=some (fr',H',nx')→e9 P nx gs fr H (fun a b c=>a=fr'∧b=H'∧c=nx')
 |[],fr,H,nx,fr',H',nx',h=>by
  simp only[AR,Option.some.injEq,Prod.mk.injEq] at h
  exact h
 |g::gs,fr,H,nx,fr',H',nx',h=>by
  simp only[AR] at h
  refine pk h (fun ha=> ?_) fun hb=>kP hF hb
  split at ha
  ·rename_i r H1 nx1 hs
   unfold N0 at hs
   split at hs
   ·rename_i f as hop
    split at hs
    ·rename_i gf first caps hev
     rw[hop]
     simp only[dq,hev,pQ]
     refine⟨(hF _ _ _ _ _ _ _ hs).1,fun w0 c vs a1 a2 a3 a4=>((hF _ _ _ _ _ _ _ hs).2 w0 c vs a1 a2 a3 a4).mono ?_⟩
     rintro e w' ⟨v,r1,H2,nx2,ρ,U,he,⟨rfl,rfl,rfl⟩,hrest⟩
     exact⟨v,_,_,_,ρ,U,he,kP hF ha,hrest⟩
    ·simp at hs
   ·rename_i hnc
    have e:∀K,dq P nx fr H g.op K=jX (cD nx fr H g.op) fun p=>K p.1 (dK H p.2) (nx+1):=by
     intro K
     generalize g.op=op at hnc
     cases op<;>first|rfl|exact absurd rfl (hnc _ _)
    rw[e]
    split at hs
    ·rename_i p hst
     simp only[Option.some.injEq,Prod.mk.injEq] at hs
     obtain⟨rfl,rfl,rfl⟩:=hs
     rw[hst]
     exact kP hF ha
    ·simp at hs
  ·simp at ha
mutual
theorem mB:∀{a:AV},jj a=true→cE 0 a
 | .sc _,_=>by rw[cE];trivial
 | .any,_=>by rw[cE];trivial
 | .zc,_=>by rw[cE];trivial
 | .im _ _ es,h=>by rw[jj] at h;rw[cE];exact ec h
 | .ip _ _ es _ _,h=>by rw[jj] at h;rw[cE];exact ec h
 | .sl _ _,h=>by simp[jj] at h
 | .pt _ _ _ _,h=>by simp[jj] at h
 | .mp _,h=>by simp[jj] at h
 | .sv _ _ _ _,h=>by simp[jj] at h
 | .ab,_=>by rw[cE];trivial
 | .agg cs,h=>by rw[jj] at h;rw[cE];exact ec h
 | .dV cs,h=>by rw[jj] at h;rw[cE];exact ec h
 | .fn _ p q,h=>by rw[jj,Bool.and_eq_true] at h;rw[cE];exact⟨ec h.1,ec h.2⟩
 | .lY _ x,h=>by rw[jj] at h;rw[cE];exact mB h
theorem ec:∀{as:List AV},lC as=true→cT 0 as
 |[],_=>by rw[cT];trivial
 |a::r,h=>by rw[lC,Bool.and_eq_true] at h;rw[cT];exact⟨mB h.1,ec h.2⟩
end
theorem cP.pure {P:Program} {f:FuncId} {args:List AV} {r:AV} {H':Hp} (h:cP P f args [] 0 (fun r1 H1 _=>r1=r∧H1=H')) (hf:cE 0 (dX H' 6 r)):Pure P f args (fun r'=>r'=dX H' 6 r):=by
 refine⟨h.1,fun M w vs hM hv=> ?_⟩
 have hS:dn w ⟨fun _=>none,bn [],fun _=>False,w,M⟩:=⟨Below.refl _ _,hM,fun b e sz d es he=>by simp[bn] at he,fun b b' k k' blk o z o' z' hk=>by simp[bn] at hk⟩
 have hv':cd ⟨fun _=>none,bn [],fun _=>False,w,M⟩ args vs:=hv
 refine(h.2 w _ vs hS rfl (fun _ h=>h.elim) hv').mono ?_
 rintro e w' ⟨v,r1,H1,nx',ρ,U,he,⟨rfl,rfl⟩,hU,hS',_,g2⟩
 exact⟨v,_,he,rfl,hf,kB hS' rfl 6 hf g2,hS'.below⟩
theorem cP.fresh {P:Program} {f:FuncId} {args:List AV} {b n:Nat} {H':Hp} {e:TypeId} {sz:Nat} {d:AV} {es:List AV} (h:cP P f args [] 0 (fun r1 H1 _=>r1= .sl b n∧H1=H')) (hfa:cT 0 args) (hb:bn H' b=some (.row e sz d es)) (hl:es.length=n) (hf:cT 0 es) (H:Hp) (id:Nat):
 mU P f args H id (fun r' H''=>r'= .sl id n∧H''=dK H (some (id, .row e sz d es))):=by
 refine⟨h.1,fun w0 c vs hS hH hid hv=> ?_⟩
 have hS0:dn c.w ⟨fun _=>none,bn [],fun _=>False,c.w,c.M⟩:=⟨Below.refl _ _,hS.fit,fun b e sz d es he=>by simp[bn] at he,fun b b' k k' blk o z o' z' hk=>by simp[bn] at hk⟩
 have hv':cd ⟨fun _=>none,bn [],fun _=>False,c.w,c.M⟩ args vs:=hv.nQ (fun _ h=>h) hfa
 refine(h.2 c.w _ vs hS0 rfl (fun _ h=>h.elim) hv').mono ?_
 rintro en w' ⟨v,r1,H1,nx',ρ,U,he,⟨rfl,rfl⟩,hU,hS',_,hvr⟩
 rw[VR] at hvr
 obtain⟨_,ad,cap,hvv,hrr⟩:=hvr
 obtain⟨_,hr2⟩:=hrr _ _ _ _ hb
 have hr3:=hr2 hl
 obtain⟨_,hz,hor⟩:=hS'.kz b _ _ _ _ hb (s9 hr3)
 have hbel:=hS'.below
 obtain⟨s1,s2⟩:=hS.world hbel
 have hHeq:bn (dK H (some (id, .row e sz d es)))=fQ c.H id (some (.row e sz d es)):=by rw[df,hH]
 rcases hor with⟨h0,hes⟩|⟨blk,o,z,hρ,hlow,⟨arr,harr,hsz⟩,hlz,hrow⟩
 ·subst hes
  simp only[List.length_nil] at hl
  subst hl
  obtain⟨p1,p2⟩:=s1.JD (b:=id) (e:=e) (sz:=sz) d hz hid
  refine⟨v,_,_,fQ c.ρ id none,he,⟨rfl,rfl⟩, ?_, ?_, ?_⟩
  ·rw[hHeq];exact p1
  ·rw[hHeq];exact s2.trans p2
  ·rw[hHeq,VR]
   refine⟨.inr rfl,ad,cap,hvv,fun e' sz' d' es' he'=> ?_⟩
   simp only[jR,dP,Option.some.injEq,eV.row.injEq] at he'
   obtain⟨rfl,rfl,rfl,rfl⟩:=he'
   refine⟨Nat.le_refl _,fun _=> .inl ⟨by simp[jR], ?_⟩⟩
   rcases hr3 with⟨_,h2,h3⟩|⟨blk,o,z,h2,_⟩
   ·exact⟨h2,h3⟩
   ·rw[h0] at h2;cases h2
 ·obtain⟨p1,p2⟩:=hS.qA (b:=id) (e:=e) (sz:=sz) d (es:=es) (w':=w') (blk:=blk) (o:=o) (z:=z) hz (.inl hid) (.inl hlow) hbel.os hbel.tape hbel.output hbel.size (fun k hk _=>hbel.block k hk) harr hsz hlz (fun hle i hi=>by
   obtain⟨x,x1,x2⟩:=du hrow i hi
   refine⟨x,x1,VR.gF (n:=0) (c:=⟨ρ,bn H1,U,w',c.M⟩) (c':={ c with ρ:=fQ c.ρ id (some (blk,o,z)),H:=fQ c.H id (some (.row e sz d es)),U:=fun x=>c.U x∨x=id,w:=w' }) ⟨fun b hb=>by omega,fun y hm _=>⟨rfl, ?_⟩,fun b hb=>by omega⟩ (vx.1 hf _ ?_) x2⟩
   ·rintro(h0|⟨y',k,o',z',hk,hρ'⟩)
    ·exact hm (.inl (.inl h0))
    ·by_cases hy:y'=id
     ·subst hy
      simp only[dP,Option.some.injEq,Prod.mk.injEq] at hρ'
      obtain⟨rfl,_,_⟩:=hρ'
      exact hm (.inr ⟨b,_,_,_,hb,hρ⟩)
     ·simp only[eD _ _ hy] at hk hρ'
      exact hm (.inl (.inr ⟨y',k,o',z',hk,hρ'⟩))
   ·simp[List.getD,hi])
  refine⟨v,_,_,fQ c.ρ id (some (blk,o,z)),he,⟨rfl,rfl⟩, ?_, ?_, ?_⟩
  ·rw[hHeq];exact p1
  ·rw[hHeq];exact p2
  ·rw[hHeq,VR]
   refine⟨.inr rfl,ad,cap,hvv,fun e' sz' d' es' he'=> ?_⟩
   simp only[jR,dP,Option.some.injEq,eV.row.injEq] at he'
   obtain⟨rfl,rfl,rfl,rfl⟩:=he'
   refine⟨by omega,fun _=> .inr ⟨blk,o,z,by simp[jR], ?_⟩⟩
   rcases hr3 with⟨h2,_,_⟩|⟨blk',o',z',h2,h3,h4,h5,h6⟩
   ·rw[hρ] at h2;cases h2
   ·rw[hρ] at h2;cases h2
    exact⟨h3,h4,h5,h6⟩
theorem yN {P:Program} {F:CF} (hF:Ok P F) {id:Nat} {fr:Fr} {H:Hp} {op:dQ} {r:AV} {u:Option (Nat×eV)} (h:AS F id fr H op=some (r,u)) {K:AV→Option (Nat×eV)→List Nat→Prop} (hK:K r u (PO fr op)):j0 P id fr H op K:=by
 unfold AS at h
 split at h
 ·rename_i f as
  split at h
  ·rename_i gf first caps hev
   simp only[Option.ite_none_right_eq_some] at h
   obtain⟨hfit,h⟩:=h
   have RQ:∀{r1:AV} {H1:Hp} {nx1:Nat},F gf (first++pV fr as++caps) [] 0=some (r1,H1,nx1)→cP P gf (first++pV fr as++caps) [] 0 (fun a b _=>a=r1∧b=H1):=by
    intro r1 H1 nx1 hc
    refine⟨(hF _ _ _ _ _ _ _ hc).1,fun w0 c vs a1 a2 a3 a4=>((hF _ _ _ _ _ _ _ hc).2 w0 c vs a1 a2 a3 a4).mono ?_⟩
    rintro e w' ⟨v,r2,H2,nx2,ρ,U,he,⟨rfl,rfl,rfl⟩,hrest⟩
    exact⟨v,_,_,_,ρ,U,he,⟨rfl,rfl⟩,hrest⟩
   split at h
   ·rename_i b n H1 nx1 hc
    split at h
    ·rename_i e sz d es hb
     simp only[Option.ite_none_right_eq_some,Option.some.injEq,Prod.mk.injEq] at h
     obtain⟨⟨hl,hfe⟩,rfl,rfl⟩:=h
     refine⟨_,_,[], ?_,hK⟩
     simp only[mW,hev]
     exact⟨fun H _=>(RQ hc).fresh (ec hfit) hb hl (ec hfe) H id,fun b q h=>by simp only[Option.some.injEq,Prod.mk.injEq] at h;exact h.1.symm⟩
    ·simp at h
   ·rename_i r1 H1 nx1 _ hc
    simp only[Option.ite_none_right_eq_some,Option.some.injEq,Prod.mk.injEq] at h
    obtain⟨hz,rfl,rfl⟩:=h
    refine⟨_,none,[], ?_,hK⟩
    rw[hev]
    exact Pure.JC (ec hfit) (cP.pure (H':=H1) (RQ hc) (mB hz))
   ·simp at h
  ·simp at h
 ·rename_i hnc
  have e:j0 P id fr H op K=jX (cD id fr H op) fun p=>K p.1 p.2 (PO fr op):=by
   cases op<;>first|rfl|exact absurd rfl (hnc _ _)
  rw[e,h]
  exact hK
theorem nV {P:Program} {F:CF} (hF:Ok P F):∀{gs:List gM} {id:Nat} {fr:Fr} {H:Hp} {tr:Tr} {fr':Fr} {H':Hp} {tr':Tr},uF F id gs fr H tr=some (fr',H',tr')→iE P id gs fr H tr (fun a b c=>a=fr'∧b=H'∧c=tr')
 |[],id,fr,H,tr,fr',H',tr',h=>by
  simp only[uF,Option.some.injEq,Prod.mk.injEq] at h
  exact h
 |g::gs,id,fr,H,tr,fr',H',tr',h=>by
  simp only[uF] at h
  refine pk h (fun ha=> ?_) fun hb=>nV hF hb
  split at ha
  ·rename_i r u hs
   exact yN hF hs (nV hF ha)
  ·simp at ha
theorem yo {s t:List Nat×Option Nat} (h:F3 s t=true):ua s t:=by
 obtain⟨s1,s2⟩:=s
 obtain⟨t1,t2⟩:=t
 unfold F3 at h
 unfold ua
 cases s2<;>cases t2<;>simp_all
 exact fun h'=>h.2 h'.symm
theorem vA {cS:Nat→Bool}:∀{H:Hp} {seen:List Nat} (b:Nat),bn (pr cS seen H) b=if seen.contains b then none else if cS b then bn H b else none
 |[],seen,b=>by simp[pr,bn]
 |(d,k)::r,seen,b=>by
  simp only[pr]
  by_cases hd:seen.contains d=true
  ·rw[if_pos hd,vA b]
   simp only[bn]
   by_cases hb:b=d
   ·subst hb;simp only[hd,if_true]
   ·simp[hb]
  ·rw[if_neg hd]
   by_cases hk:cS d=true
   ·rw[if_pos hk]
    simp only[bn]
    by_cases hb:b=d
    ·subst hb;rw[if_pos rfl,if_neg hd,if_pos hk,if_pos rfl]
    ·rw[if_neg hb,vA b,if_neg hb]
     simp[hb]
   ·rw[if_neg hk,vA b]
    simp only[bn]
    by_cases hb:b=d
    ·subst hb;simp[hk]
    ·simp[hb]
theorem uz:∀{fr:Fr} {seen:List Nat} (t:Nat),seen.contains t=false→ca (NW seen fr) t=ca fr t
 |[],seen,t,_=>rfl
 |(d,k)::r,seen,t,h=>by
  simp only[NW]
  by_cases hd:seen.contains d=true
  ·rw[if_pos hd,uz t h]
   simp only[ca]
   have:t≠d:=by rintro rfl;rw[h] at hd;cases hd
   rw[if_neg this]
  ·rw[if_neg hd]
   simp only[ca]
   by_cases hb:t=d
   ·rw[if_pos hb,if_pos hb]
   ·rw[if_neg hb,if_neg hb,uz t (by simp only[List.contains_cons,h,Bool.or_false];simpa using hb)]
theorem GB (nx0:Nat) (roots:List Nat) (H:Hp) (b:Nat):bn (gc nx0 roots H) b=bn H b∨bn (gc nx0 roots H) b=none:=by
 unfold gc
 simp only[vA]
 simp only[List.contains_nil,Bool.false_eq_true,if_false]
 split
 ·exact .inl rfl
 ·exact .inr rfl
theorem dn.drop {w0:World} {c:Cx} (h:dn w0 c) {H':Nat→Option eV} (hH:∀b,H' b=c.H b∨H' b=none):dn w0 { c with H:=H' }∧c.le { c with H:=H' }:=by
 have hs:∀b k,H' b=some k→c.H b=some k:=fun b k hk=>by
  rcases hH b with e|e
  ·rw[←e];exact hk
  ·rw[e] at hk;cases hk
 have hle:c.le { c with H:=H' }:=by
  refine⟨fun _ h=>h,Nat.le_refl _,fun b hm _=>⟨rfl, ?_⟩,fun b _ e sz d es he=>⟨_,_,_,hs b _ he, .inl ⟨rfl,rfl⟩⟩⟩
  rintro(h0|⟨x,k,o,z,hk,hρ⟩)
  ·exact hm (.inl h0)
  ·exact hm (.inr ⟨x,k,o,z,hs x k hk,hρ⟩)
 refine⟨⟨h.below,h.m0,fun b e sz d es he=> ?_,fun b b' k k' blk o z o' z' hk hk'=>h.inj b b' k k' blk o z o' z' (hs _ _ hk) (hs _ _ hk')⟩,hle⟩
 obtain⟨p1,p3⟩:=h.row b e sz d es (hs _ _ he)
 exact⟨p1,p3.cS hle rfl fun _ _ _ _ _=>rfl⟩
theorem vY.drop {lo n:Nat} {fr fr':Fr} {H H':Hp} {nx:Nat} (h1:∀t,ca fr' t=ca fr t) (h2:∀b,bn H' b=bn H b∨bn H' b=none):vY lo n fr H nx fr' H' nx:=by
 rintro w0 M0 c0 a w ⟨hn,hd,ρ,U,hU,hS,hF,hT⟩
 obtain⟨s1,s2⟩:=hS.drop h2
 exact⟨hn,hd,ρ,U,hU,s1,fun t=>by rw[h1];exact VR.cS s2 (hF t),hT.to s2⟩
theorem cP.drop {P:Program} {f:FuncId} {args:List AV} {H:Hp} {nx:Nat} {r:AV} {H1 H2:Hp} {nx1:Nat} (h:cP P f args H nx (fun a b c=>a=r∧b=H1∧c=nx1)) (h2:∀b,bn H2 b=bn H1 b∨bn H2 b=none):
 cP P f args H nx (fun a b c=>a=r∧b=H2∧c=nx1):=by
 refine⟨h.1,fun w0 c vs a1 a2 a3 a4=>(h.2 w0 c vs a1 a2 a3 a4).mono ?_⟩
 rintro e w' ⟨v,r1,H3,nx3,ρ,U,he,⟨rfl,rfl,rfl⟩,hU,hS,hle,hv⟩
 obtain⟨s1,s2⟩:=hS.drop h2
 exact⟨v,_,_,_,ρ,U,he,⟨rfl,rfl,rfl⟩,hU,s1,hle.trans s2,VR.cS s2 hv⟩
abbrev xQ (e:Ex) (fr:Fr) (H:Hp) (nx:Nat):QT:=fun e1 fr1 H1 nx1=>e1=e∧fr1=fr∧H1=H∧nx1=nx
theorem rU {P:Program} {n lo nx0:Nat} {x:LC} {f:Fr→Hp→Nat→Option (Ex×Fr×Hp×Nat)} (hx:∀{fr H nx e fr' H' nx'},f fr H nx=some (e,fr',H',nx')→WL P n lo x fr H nx (xQ e fr' H' nx')) {c1:Code} (h1:cy P n c1=some x)
 (w0:World) (M0:Nat→Prop) (c0:Cx) (b:Frame) (kk:List Item) (cs:List Frame):
 ∀(k:Nat) {fr:Fr} {H:Hp} {nx:Nat} {e:Ex} {fr':Fr} {H':Hp} {nx':Nat},xZ f nx0 k fr H nx=some (e,fr',H',nx')→∀a w,Holds w0 M0 c0 lo n fr H nx a w→
  ∃e1 a' w',LQ w0 M0 c0 lo n (xQ e fr' H' nx') e1 a' w'∧Arrives P (lone (b.at a (.code c1:: .inLoop c1::kk)) cs w) b kk cs e1 a' w'
 |0,fr,H,nx,e,fr',H',nx',h=>by simp[xZ] at h
 |k+1,fr,H,nx,e,fr',H',nx',h=>by
  intro a w hh
  simp only[xZ] at h
  split at h
  ·rename_i fr1 H1 nx1 hf
   obtain⟨e1,a1,w1,hq,harr⟩:=hx hf c1 h1 w0 M0 c0 a w hh b (.inLoop c1::kk) cs
   obtain⟨x',fr2,H2,nx2,rfl,⟨rfl,rfl,rfl,rfl⟩,hh'⟩:=hq
   have hh2:=(vY.drop (lo:=lo) (n:=n) (fr:=fr2) (fr':=NW [] fr2) (H:=H2) (H':=gc nx0 (oG ((NW [] fr2).map (·.2))) H2) (nx:=nx2) (fun t=>uz t rfl) (GB _ _ _)) _ _ _ _ _ hh'
   obtain⟨e2,a2,w2,hq2,harr2⟩:=rU hx h1 w0 M0 c0 b kk cs k h a1 w1 hh2
   exact⟨e2,a2,w2,hq2, .of_steps (Steps.trans harr (.one step_inLoop)) harr2⟩
  ·obtain⟨e1,a1,w1,hq,harr⟩:=hx h c1 h1 w0 M0 c0 a w hh b (.inLoop c1::kk) cs
   obtain⟨x',fr2,H2,nx2,rfl,⟨rfl,rfl,rfl,rfl⟩,hh'⟩:=hq
   rename_i hne
   cases x' with
   |normal=>exact absurd h (hne _ _ _)
   |exit id=>exact⟨_,a1,w1,⟨.exit id,_,_,_,rfl,⟨rfl,rfl,rfl,rfl⟩,hh'⟩, .pass (x:= .inLoop c1) rfl (fun _ _=> .inl (by simp[Ex.to])) harr⟩
   |ret=>exact⟨_,a1,w1,⟨.ret,_,_,_,rfl,⟨rfl,rfl,rfl,rfl⟩,hh'⟩, .pass (x:= .inLoop c1) rfl (fun _ _=> .inl (by simp[Ex.to])) harr⟩
theorem cP.mono {P:Program} {f:FuncId} {args:List AV} {H:Hp} {nx:Nat} {R R':AV→Hp→Nat→Prop} (h:cP P f args H nx R) (hr:∀r H n,R r H n→R' r H n):cP P f args H nx R':=
 ⟨h.1,fun w0 c vs a1 a2 a3 a4=>(h.2 w0 c vs a1 a2 a3 a4).mono fun _ _ ⟨v,r,H',nx',ρ,U,he,hR,hrest⟩=>⟨v,r,H',nx',ρ,U,he,hr _ _ _ hR,hrest⟩⟩
theorem sf.mono {P:Program} {t:TypeId} {v:AV} {nm:String} {args:List AV} {H:Hp} {nx:Nat} {R R':AV→Hp→Nat→Prop} (h:sf P t v nm args H nx R) (hr:∀r H n,R r H n→R' r H n):sf P t v nm args H nx R':=by
 obtain⟨f,md,hm,hc⟩:=h
 refine⟨f,md,hm, ?_⟩
 cases md with
 |none=>exact cP.mono hc hr
 |some p=>obtain⟨sz,e,off,r,h1,h2,h3⟩:=hc;exact⟨sz,e,off,r,h1,h2,cP.mono h3 hr⟩
theorem dq.mono {P:Program} {nx:Nat} {fr:Fr} {H:Hp} {op:dQ} {K K':AV→Hp→Nat→Prop} (h:dq P nx fr H op K) (hk:∀r H n,K r H n→K' r H n):dq P nx fr H op K':=by
 cases op
 case call f as=>
  simp only[dq,pQ] at h ⊢
  split at h
  ·exact h.mono hk
  ·exact sf.mono h hk
  ·exact h.elim
 all_goals
  simp only[dq] at h ⊢
  generalize cD nx fr H _=x at h ⊢
  cases x with
  |none=>exact h
  |some p=>exact hk _ _ _ h
theorem e9.mono {P:Program}:∀{gs:List gM} {nx:Nat} {fr:Fr} {H:Hp} {K K':Fr→Hp→Nat→Prop},e9 P nx gs fr H K→(∀fr H nx,K fr H nx→K' fr H nx)→e9 P nx gs fr H K'
 |[],_,_,_,_,_,h,hk=>hk _ _ _ h
 |_::_,_,_,_,_,_,h,hk=>dL.mono h (fun h=>dq.mono h fun _ _ _ h=>e9.mono h hk) fun h=>e9.mono h hk
theorem iE.mono {P:Program}:∀{gs:List gM} {id:Nat} {fr:Fr} {H:Hp} {tr:Tr} {K K':Fr→Hp→Tr→Prop},iE P id gs fr H tr K→(∀fr H tr,K fr H tr→K' fr H tr)→iE P id gs fr H tr K'
 |[],_,_,_,_,_,_,h,hk=>hk _ _ _ h
 |_::_,_,_,_,_,_,_,h,hk=>dL.mono h (fun h=>h.mono fun _ _ _ h=>iE.mono h hk) fun h=>iE.mono h hk
theorem gX.mono {P:Program}:∀{segs:List pn} {nx:Nat} {fr:Fr} {H:Hp} {K K':Fr→Hp→Nat→Prop},gX P nx segs fr H K→(∀fr H nx,K fr H nx→K' fr H nx)→gX P nx segs fr H K'
 |[],_,_,_,_,_,h,hk=>hk _ _ _ h
 |⟨[],ps⟩::rest,nx,fr,H,K,K',h,hk=>⟨h.1,gX.mono h.2 hk⟩
 |⟨[g],ps⟩::rest,nx,fr,H,K,K',h,hk=>by
  simp only[gX] at h ⊢
  exact dL.mono h (fun h=>dq.mono h fun _ _ _ h=>gX.mono h hk) fun h=>gX.mono h hk
 |⟨g1::g2::gs,ps⟩::rest,nx,fr,H,K,K',h,hk=>by
  simp only[gX] at h ⊢
  exact iE.mono h fun _ _ _ ⟨h1,h2⟩=>⟨h1,gX.mono h2 hk⟩
theorem nW {P:Program} {F:CF} (hF:Ok P F):∀{segs:List pn} {fr:Fr} {H:Hp} {nx:Nat} {fr':Fr} {H':Hp} {nx':Nat},sK F segs fr H nx=some (fr',H',nx')→gX P nx segs fr H (fun a b c=>a=fr'∧b=H'∧c=nx')
 |[],fr,H,nx,fr',H',nx',h=>by
  simp only[sK,Option.some.injEq,Prod.mk.injEq] at h
  exact h
 |s::rest,fr,H,nx,fr',H',nx',h=>by
  obtain⟨gs,ps⟩:=s
  by_cases hsing:∃g,gs=[g]
  ·obtain⟨g,rfl⟩:=hsing
   simp only[sK] at h
   split at h
   ·rename_i fr1 H1 nx1 hs
    have h1:=kP hF hs
    refine e9.mono (K':=fun a b c=>gX P c rest a b _) h1 ?_
    rintro a b c ⟨rfl,rfl,rfl⟩
    exact nW hF h
   ·simp at h
  ·simp only[sK] at h
   split at h
   ·exact absurd ⟨_,rfl⟩ hsing
   ·split at h
    ·rename_i fr1 H1 tr hs
     simp only[Option.ite_none_right_eq_some] at h
     obtain⟨hfar,h⟩:=h
     have h1:=nV hF hs
     have h2:iE P nx gs fr H [] fun a b tr=>iG tr ps∧gX P (nx+gs.length) rest a b (fun a b c=>a=fr'∧b=H'∧c=nx'):=by
      refine iE.mono h1 ?_
      rintro a b c ⟨rfl,rfl,rfl⟩
      exact⟨fun p hp=>yo (List.all_eq_true.1 hfar p hp),nW hF h⟩
     match gs,hsing,h2 with
     |[],_,h2=>exact h2
     |[g],hsing,_=>exact absurd ⟨_,rfl⟩ hsing
     |g1::g2::gs,_,h2=>exact h2
    ·simp at h
theorem fG {P:Program} {F:CF} (hF:Ok P F) {n lo nx0:Nat}:∀{lc:LC} {fr:Fr} {H:Hp} {nx:Nat} {e:Ex} {fr':Fr} {H':Hp} {nx':Nat},iB F nx0 lc fr H nx=some (e,fr',H',nx')→WL P n lo lc fr H nx (xQ e fr' H' nx')
 | .skip,fr,H,nx,e,fr',H',nx',h=>by
  simp only[iB,Option.some.injEq,Prod.mk.injEq] at h
  obtain⟨rfl,rfl,rfl,rfl⟩:=h
  exact WL.skip ⟨rfl,rfl,rfl,rfl⟩
 | .ret,fr,H,nx,e,fr',H',nx',h=>by
  simp only[iB,Option.some.injEq,Prod.mk.injEq] at h
  obtain⟨rfl,rfl,rfl,rfl⟩:=h
  exact WL.ret ⟨rfl,rfl,rfl,rfl⟩
 | .exit id,fr,H,nx,e,fr',H',nx',h=>by
  simp only[iB,Option.some.injEq,Prod.mk.injEq] at h
  obtain⟨rfl,rfl,rfl,rfl⟩:=h
  exact WL.exit ⟨rfl,rfl,rfl,rfl⟩
 | .region ops,fr,H,nx,e,fr',H',nx',h=>by
  simp only[iB] at h
  split at h
  ·rename_i fr1 H1 nx1 hs
   simp only[Option.some.injEq,Prod.mk.injEq] at h
   obtain⟨rfl,rfl,rfl,rfl⟩:=h
   have:=kP hF hs
   have q:e9 P nx ops fr H (fun a b c=>xQ .normal fr1 H1 nx1 .normal a b c):=by
    simpa[xQ] using this
   exact WL.region q
  ·simp at h
 | .drawn segs,fr,H,nx,e,fr',H',nx',h=>by
  simp only[iB] at h
  split at h
  ·rename_i fr1 H1 nx1 hs
   simp only[Option.some.injEq,Prod.mk.injEq] at h
   obtain⟨rfl,rfl,rfl,rfl⟩:=h
   refine WL.drawn ((nW hF hs).mono ?_)
   rintro a b c ⟨rfl,rfl,rfl⟩
   exact⟨rfl,rfl,rfl,rfl⟩
  ·simp at h
 | .seq a b,fr,H,nx,e,fr',H',nx',h=>by
  simp only[iB] at h
  split at h
  ·rename_i fr1 H1 nx1 hs
   refine WL.seq ((fG hF hs).mono ?_)
   rintro e1 fr2 H2 nx2 ⟨rfl,rfl,rfl,rfl⟩
   exact fG hF h
  ·rename_i hne
   refine WL.seq ((fG hF h).mono ?_)
   rintro e1 fr2 H2 nx2 ⟨rfl,rfl,rfl,rfl⟩
   cases e1 with
   |normal=>exact absurd h (hne _ _ _)
   |exit id=>exact⟨rfl,rfl,rfl,rfl⟩
   |ret=>exact⟨rfl,rfl,rfl,rfl⟩
 | .cond c a b,fr,H,nx,e,fr',H',nx',h=>by
  simp only[iB] at h
  split at h
  ·rename_i t ht
   cases t with
   |true=>exact WL.cond ht (fun _=>fG hF (by simpa using h)) (fun h=>by cases h)
   |false=>exact WL.cond ht (fun h=>by cases h) (fun _=>fG hF (by simpa using h))
  ·simp at h
 | .block id a,fr,H,nx,e,fr',H',nx',h=>by
  simp only[iB] at h
  split at h
  ·rename_i id' fr1 H1 nx1 hs
   refine WL.block ((fG hF hs).mono ?_)
   rintro e1 fr2 H2 nx2 ⟨rfl,rfl,rfl,rfl⟩
   simp only[uX]
   split at h
   ·rename_i he
    simp only[Option.some.injEq,Prod.mk.injEq] at h
    obtain⟨rfl,rfl,rfl,rfl⟩:=h
    rw[if_pos he];exact⟨rfl,rfl,rfl,rfl⟩
   ·rename_i he
    simp only[Option.some.injEq,Prod.mk.injEq] at h
    obtain⟨rfl,rfl,rfl,rfl⟩:=h
    rw[if_neg he];exact⟨rfl,rfl,rfl,rfl⟩
  ·rename_i hne
   refine WL.block ((fG hF h).mono ?_)
   rintro e1 fr2 H2 nx2 ⟨rfl,rfl,rfl,rfl⟩
   cases e1 with
   |normal=>exact⟨rfl,rfl,rfl,rfl⟩
   |exit id'=>exact absurd h (hne _ _ _ _)
   |ret=>exact⟨rfl,rfl,rfl,rfl⟩
 | .loop a,fr,H,nx,e,fr',H',nx',h=>by
  intro code hc w0 M0 c0 ac w hh
  have:∃c1,code= .loop c1∧cy P n c1=some a:=by
   cases code<;>simp only[cy] at hc
   case loop c1=>
    simp only[Option.map_eq_some_iff,LC.loop.injEq] at hc
    obtain⟨x',h1,rfl⟩:=hc
    exact⟨c1,rfl,h1⟩
   all_goals (exfalso;repeat' (split at hc))<;>simp at hc
  obtain⟨c1,rfl,h1⟩:=this
  intro b k cs
  simp only[iB] at h
  obtain⟨e2,a2,w2,hq,harr⟩:=rU (fun h=>fG hF h) h1 w0 M0 c0 b k cs _ h ac w hh
  exact⟨e2,a2,w2,hq, .of_steps (.one step_loop) harr⟩
def N2 (P:Program) (e:LF):Prop:=∃fn,P.funcs[e.f]?=some fn∧(fn.name== "runtime.NumGoroutine")=false∧(fn.body.bind (cy P fn.ntmps))=some e.lc∧gn P fn.results.toList=some e.res∧e.n=fn.ntmps
def RD (P:Program):List LF→Prop
 |[]=>True
 |e::r=>N2 P e∧RD P r
theorem tV {P:Program}:∀{T:List LF},RD P T→∀{f:FuncId} {e:LF},GC T f=some e→e.f=f∧N2 P e
 |[],_,f,e,h=>by simp[GC] at h
 |x::r,hT,f,e,h=>by
  simp only[GC] at h
  split at h
  ·rename_i hf
   simp only[Option.some.injEq] at h
   subst h
   exact⟨hf,hT.1⟩
  ·exact tV hT.2 h
theorem nU {P:Program} {T:List LF} (hT:RD P T):∀k,Ok P (uE T k)
 |0,f,args,H,nx,r,H',nx',h=>by simp[uE] at h
 |k+1,f,args,H,nx,r,H',nx',h=>by
  simp only[uE] at h
  split at h
  ·rename_i e he
   obtain⟨hef,fn,g1,g2,g3,g4,g5⟩:=tV hT he
   subst hef
   simp only[Option.ite_none_right_eq_some] at h
   obtain⟨hlen,h⟩:=h
   by_cases hfz:e.fz=true
   ·rw[if_pos hfz] at h
    simp only[Option.ite_none_right_eq_some] at h
    obtain⟨hfit,h⟩:=h
    split at h
    ·simp at h
    ·rename_i x fr1 H1 nx1 hx hc
     split at h
     ·rename_i rs hrs
      simp only[Option.ite_none_right_eq_some,Option.some.injEq,Prod.mk.injEq] at h
      obtain⟨hz,rfl,rfl,rfl⟩:=h
      have hN:cP P e.f args [] 0 (fun a b _=>a=pack rs∧b=H1):=by
       refine cP.l3 g1 g2 g3 g4 (by omega) ?_
       refine(fG (nU hT k) hc).mono ?_
       rintro e1 fr2 H2 nx2 ⟨rfl,rfl,rfl,rfl⟩
       cases e1 with
       |exit id=>exact absurd rfl (hx id)
       |normal=>simp only[zo,hrs,jX,and_self]
       |ret=>simp only[zo,hrs,jX,and_self]
      exact(hN.pure (mB hz)).dM (ec hfit) fun r hr=>⟨hr,rfl,rfl⟩
     ·simp at h
    ·simp at h
   rw[if_neg hfz] at h
   split at h
   ·simp at h
   ·rename_i x fr1 H1 nx1 hx hc
    split at h
    ·rename_i rs hrs
     simp only[Option.some.injEq,Prod.mk.injEq] at h
     obtain⟨rfl,rfl,rfl⟩:=h
     refine cP.drop (H1:=H1) ?_ (GB _ _ _)
     refine cP.l3 g1 g2 g3 g4 (by omega) ?_
     refine(fG (nU hT k) hc).mono ?_
     rintro e1 fr2 H2 nx2 ⟨rfl,rfl,rfl,rfl⟩
     cases e1 with
     |exit id=>exact absurd rfl (hx id)
     |normal=>simp only[zo,hrs,jX,and_self]
     |ret=>simp only[zo,hrs,jX,and_self]
    ·simp at h
   ·simp at h
  ·simp at h
end Go.cZ
end
