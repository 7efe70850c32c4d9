import Derived.Test.YtmonponfppdgfaaGreatDoorM8
namespace Go.dD
def NV (P:Program) (n lo:Nat) (y:LC) (Q:QT) (fr:Fr) (H:Hp) (nx:Nat):Prop:=WL P n lo y fr H nx Q
theorem WL.cont {P:Program} {n lo:Nat} {y:LC} {fr:Fr} {H:Hp} {nx:Nat} {Q:QT} (h:WL P n lo y fr H nx Q):NV P n lo y Q fr H nx:=h
theorem sQ (a b:AV):oh true a b=a:=by unfold oh;split<;>rfl
theorem qL (a b:AV):oh false a b=b:=by unfold oh;split<;>rfl
theorem pO (H:Hp) (k:Nat) (u:Value):de H k (.sc u)= .sc u:=by cases k<;>rfl
theorem WL.L6 {P:Program} {n lo:Nat} {fr:Fr} {H:Hp} {nx:Nat} {Q:QT} {c:dZ} {x y:LC} (hc:ev fr c= .ab) (h1:WL P n lo x fr H nx Q) (h2:WL P n lo y fr H nx Q):WL P n lo (.cond c x y) fr H nx Q:=by
 intro code hcode w0 M0 c0 a w hh
 have:∃c' c1 c2,code= .cond c' c1 c2/\cC c'=some c/\cg P n c1=some x/\cg P n c2=some y:=by
  cases code<;>simp only[cg] at hcode
  case cond c' c1 c2=>
   split at hcode
   ·rename_i c'' x' y' g1 g2 g3
    simp only[Option.some.injEq,LC.cond.injEq] at hcode
    obtain⟨rfl,rfl,rfl⟩:=hcode
    exact⟨c',c1,c2,rfl,g1,g2,g3⟩
   ·simp at hcode
  all_goals (exfalso;repeat' (split at hcode))<;>simp at hcode
 obtain⟨c',c1,c2,rfl,g1,g2,g3⟩:=this
 have hh':=hh
 obtain⟨_,_,ρ,U,_,_,hF,_⟩:=hh'
 have hv:=gQ hF g1
 rw[hc,VR] at hv
 obtain⟨t,hv⟩:=hv
 exact wp_cond_split hv (fun _=>h1 c1 g2 w0 M0 c0 a w hh) (fun _=>h2 c2 g3 w0 M0 c0 a w hh)
end Go.dD
namespace Go.dD
open Go.RowKit
abbrev CF:=FuncId->List AV->Hp->Nat->Option (AV×Hp×Nat)
def LP (F:CF) (nx:Nat) (fr:Fr) (H:Hp) (op:cy):Option (AV×Hp×Nat):=
 match op with
 | .call f args=>match ev fr f with
  | .fn (.func g) first caps=>F g (first++py fr args++caps) H nx
  |_=>none
 |op=>match cA nx fr H op with
  |some p=>some (p.1,cu H p.2,nx+1)
  |none=>none
def vb {α:Type} (fr:Fr) (g:Option (Nat×Bool)) (A B:Option α):Option α:=
 match g with
 |none=>A
 |some (d,want)=>match cc fr d with
  | .sc (.bool t)=>if t=want then A else B
  | .sc _=>B
  |_=>none
def AI (F:CF):List iT->Fr->Hp->Nat->Option (Fr×Hp×Nat)
 |[],fr,H,nx=>some (fr,H,nx)
 |g::rest,fr,H,nx=>vb fr g.guard
  (match LP F nx fr H g.op with
   |some (r,H',nx')=>AI F rest (gP fr g.dst r) H' nx'
   |none=>none)
  (AI F rest (gP fr g.dst (.sc undef)) H (nx+1))
/-! The same where the order is drawn: a call there must be one that only looks. -/
mutual
def jx:AV->Bool
 | .sc _| .any| .zc=>true
 | .im _ _ es=>l9 es
 | .ip _ _ es _ _=>l9 es
 | .sl _ _| .pt _ _ _ _| .mp _| .sv _ _ _ _=>false
 | .ab=>true
 | .agg cs=>l9 cs
 | .dK cs=>l9 cs
 | .fn _ p q=>l9 p&&l9 q
 | .mO _ x=>jx x
def l9:List AV->Bool
 |[]=>true
 |a::r=>jx a&&l9 r
end
def AJ (F:CF) (id:Nat) (fr:Fr) (H:Hp) (op:cy):Option (AV×Option (Nat×eO)):=
 match op with
 | .call f args=>match ev fr f with
  | .fn (.func g) first caps=>if l9 (first++py fr args++caps) then
   (match F g (first++py fr args++caps) [] 0 with
    |some (.sl b n,H',_)=>(match bk H' b with
     |some (.row e sz d es)=>if es.length=n/\l9 es=true then some (.sl id n,some (id, .row e sz d es)) else none
     |none=>none)
    |some (r,H',_)=>if jx (de H' 6 r) then some (de H' 6 r,none) else none
    |none=>none) else none
  |_=>none
 |op=>cA id fr H op
def ND (fr:Fr) (op:cy):List Nat:=match op with
 | .call _ _=>[]
 |op=>eL fr op
def EI (s t:List Nat×Option Nat):Bool:=
 (match s.2 with|some b=> !t.1.contains b|none=>true)&&(match t.2 with|some b=> !s.1.contains b|none=>true)&&(match s.2,t.2 with|some b,some b'=>b != b'|_,_=>true)
def ug (F:CF):Nat->List iT->Fr->Hp->Tr->Option (Fr×Hp×Tr)
 |_,[],fr,H,tr=>some (fr,H,tr)
 |id,g::rest,fr,H,tr=>vb fr g.guard
  (match AJ F id fr H g.op with
   |some (r,u)=>ug F (id+1) rest (gP fr g.dst r) (cu H u) (tr++[(ND fr g.op,u.map (·.1))])
   |none=>none)
  (ug F (id+1) rest (gP fr g.dst (.sc undef)) H (tr++[([],none)]))
def sr (F:CF):List uj->Fr->Hp->Nat->Option (Fr×Hp×Nat)
 |[],fr,H,nx=>some (fr,H,nx)
 |s::r,fr,H,nx=>match s.ops with
  |[g]=>(match AI F [g] fr H nx with
   |some (fr',H',nx')=>sr F r fr' H' nx'
   |none=>none)
  |gs=>match ug F nx gs fr H [] with
   |some (fr',H',tr)=>if s.ps.all (fun p=>EI (tr.getD p.1 ([],none)) (tr.getD p.2 ([],none))) then sr F r fr' H' (nx+gs.length) else none
   |none=>none
/-! Rows that are of no more use are laid aside. -/
mutual
def N9:AV->List Nat
 | .sl b _=>[b]
 | .pt b _ _ _=>[b]
 | .mp b=>[b]
 | .sv b _ _ _=>[b]
 | .agg cs=>o4 cs
 | .dK cs=>o4 cs
 | .fn _ p q=>o4 p++o4 q
 | .mO _ x=>N9 x
 |_=>[]
def o4:List AV->List Nat
 |[]=>[]
 |a::r=>N9 a++o4 r
end
def N8:Option eO->List Nat
 |some (.row _ _ _ es)=>o4 es
 |none=>[]
def closure (H:Hp):Nat->List Nat->List Nat->List Nat
 |0,_,seen=>seen
 |_,[],seen=>seen
 |k+1,b::todo,seen=>if seen.contains b then closure H k todo seen else closure H k (N8 (bk H b)++todo) (b::seen)
def pr (cH:Nat->Bool):List Nat->Hp->Hp
 |_,[]=>[]
 |seen,(b,k)::r=>if seen.contains b then pr cH seen r else if cH b then(b,k)::pr cH (b::seen) r else pr cH (b::seen) r
def LN:List Nat->Fr->Fr
 |_,[]=>[]
 |seen,(b,k)::r=>if seen.contains b then LN seen r else(b,k)::LN (b::seen) r
def zO (nx0:Nat):Hp->List Nat
 |[]=>[]
 |(b,k)::r=>if b<nx0 then N8 k++zO nx0 r else zO nx0 r
def gc (nx0:Nat) (roots:List Nat) (H:Hp):Hp:=
 let live:=closure H 2000 (roots++zO nx0 H) []
 pr (fun b=>decide (b<nx0)||live.contains b) [] H
def xU (f:Fr->Hp->Nat->Option (Ex×Fr×Hp×Nat)) (nx0:Nat):Nat->Fr->Hp->Nat->Option (Ex×Fr×Hp×Nat)
 |0,_,_,_=>none
 |k+1,fr,H,nx=>match f fr H nx with
  |some (.normal,fr',H',nx')=>xU f nx0 k (LN [] fr') (gc nx0 (o4 ((LN [] fr').map (·.2))) H') nx'
  |x=>x
def iX (F:CF) (nx0:Nat):LC->Fr->Hp->Nat->Option (Ex×Fr×Hp×Nat)
 | .skip,fr,H,nx=>some (.normal,fr,H,nx)
 | .region ops,fr,H,nx=>match AI F ops fr H nx with
  |some (fr',H',nx')=>some (.normal,fr',H',nx')
  |none=>none
 | .drawn segs,fr,H,nx=>match sr F segs fr H nx with
  |some (fr',H',nx')=>some (.normal,fr',H',nx')
  |none=>none
 | .seq a b,fr,H,nx=>match iX F nx0 a fr H nx with
  |some (.normal,fr',H',nx')=>iX F nx0 b fr' H' nx'
  |x=>x
 | .cond c a b,fr,H,nx=>match ev fr c with
  | .sc (.bool t)=>if t then iX F nx0 a fr H nx else iX F nx0 b fr H nx
  |_=>none
 | .block id a,fr,H,nx=>match iX F nx0 a fr H nx with
  |some (.exit id',fr',H',nx')=>if id'=id then some (.normal,fr',H',nx') else some (.exit id',fr',H',nx')
  |x=>x
 | .loop a,fr,H,nx=>xU (iX F nx0 a) nx0 100000 fr H nx
 | .exit id,fr,H,nx=>some (.exit id,fr,H,nx)
 | .ret,fr,H,nx=>some (.ret,fr,H,nx)
structure LF where
 f:FuncId
 n:Nat
 lc:LC
 res:List kd
 fz:Bool
def ET:List LF->FuncId->Option LF
 |[],_=>none
 |e::r,f=>if e.f=f then some e else ET r f
def uf (T:List LF):Nat->CF
 |0,_,_,_,_=>none
 |k+1,f,args,H,nx=>match ET T f with
  |some e=>if args.length<=e.n then
   if e.fz then
    (if l9 args then
     (match iX (uf T k) 0 e.lc (kK 0 args) [] 0 with
      |some (.exit _,_,_,_)=>none
      |some (_,fr',H',_)=>match j6 fr' H' e.res with
       |some rs=>if jx (de H' 6 (pack rs)) then some (de H' 6 (pack rs),H,nx) else none
       |none=>none
      |none=>none) else none) else
   (match iX (uf T k) nx e.lc (kK 0 args) H nx with
    |some (.exit _,_,_,_)=>none
    |some (_,fr',H',nx')=>match j6 fr' H' e.res with
     |some rs=>some (pack rs,gc nx (o4 rs) H',nx')
     |none=>none
    |none=>none) else none
  |none=>none
/-! ## It is so. -/
def Ok (P:Program) (F:CF):Prop:=∀f args H nx r H' nx',F f args H nx=some (r,H',nx')->cM P f args H nx (fun r1 H1 nx1=>r1=r/\H1=H'/\nx1=nx')
theorem qX {α:Type} {fr:Fr} {g:Option (Nat×Bool)} {A B:Option α} {x:α} (h:vb fr g A B=some x) {PA PB:Prop} (ha:A=some x->PA) (hb:B=some x->PB):cz fr g PA PB:=by
 unfold vb at h
 unfold cz
 split
 ·simp only at h;exact ha h
 ·simp only at h
  split
  ·rename_i t ht;rw[ht] at h;simp only at h
   split at h
   ·rename_i e;rw[if_pos e];exact ha h
   ·rename_i e;rw[if_neg e];exact hb h
  ·rename_i u hu ht
   rw[ht] at h
   split at h
   ·rename_i t' he;cases he;exact absurd rfl (hu _)
   ·exact hb h
   ·simp at h
  ·rename_i h1 h2
   split at h
   ·rename_i t' he;exact absurd he (h1 _)
   ·rename_i he;exact absurd he (h2 _)
   ·simp at h
theorem lC {P:Program} {F:CF} (hF:Ok P F):∀{gs:List iT} {fr:Fr} {H:Hp} {nx:Nat} {fr':Fr} {H':Hp} {nx':Nat},AI F gs fr H nx=some (fr',H',nx')->fA P nx gs fr H (fun a b c=>a=fr'/\b=H'/\c=nx')
 |[],fr,H,nx,fr',H',nx',h=>by
  simp only[AI,Option.some.injEq,Prod.mk.injEq] at h
  exact h
 |g::gs,fr,H,nx,fr',H',nx',h=>by
  simp only[AI] at h
  refine qX h (fun ha=> ?_) fun hb=>lC hF hb
  split at ha
  ·rename_i r H1 nx1 hs
   unfold LP at hs
   split at hs
   ·rename_i f as hop
    split at hs
    ·rename_i gf first caps hev
     rw[hop]
     simp only[fK,hev,qw]
     refine⟨(hF _ _ _ _ _ _ _ hs).1,fun w0 c vs a1 a2 a3 a4=>((hF _ _ _ _ _ _ _ hs).2 w0 c vs a1 a2 a3 a4).mono ?_⟩
     rintro e w' ⟨v,r1,H2,nx2,ρ,U,he,⟨rfl,rfl,rfl⟩,hrest⟩
     exact⟨v,_,_,_,ρ,U,he,lC hF ha,hrest⟩
    ·simp at hs
   ·rename_i hnc
    have e:∀K,fK P nx fr H g.op K=jz (cA nx fr H g.op) fun p=>K p.1 (cu H p.2) (nx+1):=by
     intro K
     generalize g.op=op at hnc
     cases op<;>first|rfl|exact absurd rfl (hnc _ _)
    rw[e]
    split at hs
    ·rename_i p hst
     simp only[Option.some.injEq,Prod.mk.injEq] at hs
     obtain⟨rfl,rfl,rfl⟩:=hs
     rw[hst]
     exact lC hF ha
    ·simp at hs
  ·simp at ha
mutual
theorem mi:∀{a:AV},jx a=true->cJ 0 a
 | .sc _,_=>by rw[cJ];trivial
 | .any,_=>by rw[cJ];trivial
 | .zc,_=>by rw[cJ];trivial
 | .im _ _ es,h=>by rw[jx] at h;rw[cJ];exact fD h
 | .ip _ _ es _ _,h=>by rw[jx] at h;rw[cJ];exact fD h
 | .sl _ _,h=>by simp[jx] at h
 | .pt _ _ _ _,h=>by simp[jx] at h
 | .mp _,h=>by simp[jx] at h
 | .sv _ _ _ _,h=>by simp[jx] at h
 | .ab,_=>by rw[cJ];trivial
 | .agg cs,h=>by rw[jx] at h;rw[cJ];exact fD h
 | .dK cs,h=>by rw[jx] at h;rw[cJ];exact fD h
 | .fn _ p q,h=>by rw[jx,Bool.and_eq_true] at h;rw[cJ];exact⟨fD h.1,fD h.2⟩
 | .mO _ x,h=>by rw[jx] at h;rw[cJ];exact mi h
theorem fD:∀{as:List AV},l9 as=true->cL 0 as
 |[],_=>by rw[cL];trivial
 |a::r,h=>by rw[l9,Bool.and_eq_true] at h;rw[cL];exact⟨mi h.1,fD h.2⟩
end
theorem cM.pure {P:Program} {f:FuncId} {args:List AV} {r:AV} {H':Hp} (h:cM P f args [] 0 (fun r1 H1 _=>r1=r/\H1=H')) (hf:cJ 0 (de H' 6 r)):Pure P f args (fun r'=>r'=de H' 6 r):=by
 refine⟨h.1,fun M w vs hM hv=> ?_⟩
 have hS:dO w ⟨fun _=>none,bk [],fun _=>False,w,M⟩:=⟨Below.refl _ _,hM,fun b e sz d es he=>by simp[bk] at he,fun b b' k k' blk o z o' z' hk=>by simp[bk] at hk⟩
 have hv':c9 ⟨fun _=>none,bk [],fun _=>False,w,M⟩ args vs:=hv
 refine(h.2 w _ vs hS rfl (fun _ h=>h.elim) hv').mono ?_
 rintro e w' ⟨v,r1,H1,nx',ρ,U,he,⟨rfl,rfl⟩,hU,hS',_,g2⟩
 exact⟨v,_,he,rfl,hf,ki hS' rfl 6 hf g2,hS'.below⟩
theorem cM.fresh {P:Program} {f:FuncId} {args:List AV} {b n:Nat} {H':Hp} {e:TypeId} {sz:Nat} {d:AV} {es:List AV} (h:cM P f args [] 0 (fun r1 H1 _=>r1= .sl b n/\H1=H')) (hfa:cL 0 args) (hb:bk H' b=some (.row e sz d es)) (hl:es.length=n) (hf:cL 0 es) (H:Hp) (id:Nat):
 nH P f args H id (fun r' H''=>r'= .sl id n/\H''=cu H (some (id, .row e sz d es))):=by
 refine⟨h.1,fun w0 c vs hS hH hid hv=> ?_⟩
 have hS0:dO c.w ⟨fun _=>none,bk [],fun _=>False,c.w,c.M⟩:=⟨Below.refl _ _,hS.fit,fun b e sz d es he=>by simp[bk] at he,fun b b' k k' blk o z o' z' hk=>by simp[bk] at hk⟩
 have hv':c9 ⟨fun _=>none,bk [],fun _=>False,c.w,c.M⟩ args vs:=hv.pd (fun _ h=>h) hfa
 refine(h.2 c.w _ vs hS0 rfl (fun _ h=>h.elim) hv').mono ?_
 rintro en w' ⟨v,r1,H1,nx',ρ,U,he,⟨rfl,rfl⟩,hU,hS',_,hvr⟩
 rw[VR] at hvr
 obtain⟨_,ad,cap,hvv,hrr⟩:=hvr
 obtain⟨_,hr2⟩:=hrr _ _ _ _ hb
 have hr3:=hr2 hl
 obtain⟨_,hz,hor⟩:=hS'.lz b _ _ _ _ hb (tN hr3)
 have hbel:=hS'.below
 obtain⟨s1,s2⟩:=hS.world hbel
 have hHeq:bk (cu H (some (id, .row e sz d es)))=gH c.H id (some (.row e sz d es)):=by rw[dL,hH]
 rcases hor with⟨h0,hes⟩|⟨blk,o,z,hρ,hlow,⟨arr,harr,hsz⟩,hlz,hrow⟩
 ·subst hes
  simp only[List.length_nil] at hl
  subst hl
  obtain⟨p1,p2⟩:=s1.IW (b:=id) (e:=e) (sz:=sz) d hz hid
  refine⟨v,_,_,gH c.ρ id none,he,⟨rfl,rfl⟩, ?_, ?_, ?_⟩
  ·rw[hHeq];exact p1
  ·rw[hHeq];exact s2.trans p2
  ·rw[hHeq,VR]
   refine⟨.inr rfl,ad,cap,hvv,fun e' sz' d' es' he'=> ?_⟩
   simp only[hD,dF,Option.some.injEq,eO.row.injEq] at he'
   obtain⟨rfl,rfl,rfl,rfl⟩:=he'
   refine⟨Nat.le_refl _,fun _=> .inl ⟨by simp[hD], ?_⟩⟩
   rcases hr3 with⟨_,h2,h3⟩|⟨blk,o,z,h2,_⟩
   ·exact⟨h2,h3⟩
   ·rw[h0] at h2;cases h2
 ·obtain⟨p1,p2⟩:=hS.sS (b:=id) (e:=e) (sz:=sz) d (es:=es) (w':=w') (blk:=blk) (o:=o) (z:=z) hz (.inl hid) (.inl hlow) hbel.os hbel.tape hbel.output hbel.size (fun k hk _=>hbel.block k hk) harr hsz hlz (fun hle i hi=>by
   obtain⟨x,x1,x2⟩:=dw hrow i hi
   refine⟨x,x1,VR.gy (n:=0) (c:=⟨ρ,bk H1,U,w',c.M⟩) (c':={ c with ρ:=gH c.ρ id (some (blk,o,z)),H:=gH c.H id (some (.row e sz d es)),U:=fun x=>c.U x\/x=id,w:=w' }) ⟨fun b hb=>by omega,fun y hm _=>⟨rfl, ?_⟩,fun b hb=>by omega⟩ (wJ.1 hf _ ?_) x2⟩
   ·rintro(h0|⟨y',k,o',z',hk,hρ'⟩)
    ·exact hm (.inl (.inl h0))
    ·by_cases hy:y'=id
     ·subst hy
      simp only[dF,Option.some.injEq,Prod.mk.injEq] at hρ'
      obtain⟨rfl,_,_⟩:=hρ'
      exact hm (.inr ⟨b,_,_,_,hb,hρ⟩)
     ·simp only[eX _ _ hy] at hk hρ'
      exact hm (.inl (.inr ⟨y',k,o',z',hk,hρ'⟩))
   ·simp[List.getD,hi])
  refine⟨v,_,_,gH c.ρ id (some (blk,o,z)),he,⟨rfl,rfl⟩, ?_, ?_, ?_⟩
  ·rw[hHeq];exact p1
  ·rw[hHeq];exact p2
  ·rw[hHeq,VR]
   refine⟨.inr rfl,ad,cap,hvv,fun e' sz' d' es' he'=> ?_⟩
   simp only[hD,dF,Option.some.injEq,eO.row.injEq] at he'
   obtain⟨rfl,rfl,rfl,rfl⟩:=he'
   refine⟨by omega,fun _=> .inr ⟨blk,o,z,by simp[hD], ?_⟩⟩
   rcases hr3 with⟨h2,_,_⟩|⟨blk',o',z',h2,h3,h4,h5,h6⟩
   ·rw[hρ] at h2;cases h2
   ·rw[hρ] at h2;cases h2
    exact⟨h3,h4,h5,h6⟩
theorem yL {P:Program} {F:CF} (hF:Ok P F) {id:Nat} {fr:Fr} {H:Hp} {op:cy} {r:AV} {u:Option (Nat×eO)} (h:AJ F id fr H op=some (r,u)) {K:AV->Option (Nat×eO)->List Nat->Prop} (hK:K r u (ND fr op)):kC P id fr H op K:=by
 unfold AJ at h
 split at h
 ·rename_i f as
  split at h
  ·rename_i gf first caps hev
   simp only[Option.ite_none_right_eq_some] at h
   obtain⟨hfit,h⟩:=h
   have O1:∀{r1:AV} {H1:Hp} {nx1:Nat},F gf (first++py fr as++caps) [] 0=some (r1,H1,nx1)->cM P gf (first++py fr as++caps) [] 0 (fun a b _=>a=r1/\b=H1):=by
    intro r1 H1 nx1 hc
    refine⟨(hF _ _ _ _ _ _ _ hc).1,fun w0 c vs a1 a2 a3 a4=>((hF _ _ _ _ _ _ _ hc).2 w0 c vs a1 a2 a3 a4).mono ?_⟩
    rintro e w' ⟨v,r2,H2,nx2,ρ,U,he,⟨rfl,rfl,rfl⟩,hrest⟩
    exact⟨v,_,_,_,ρ,U,he,⟨rfl,rfl⟩,hrest⟩
   split at h
   ·rename_i b n H1 nx1 hc
    split at h
    ·rename_i e sz d es hb
     simp only[Option.ite_none_right_eq_some,Option.some.injEq,Prod.mk.injEq] at h
     obtain⟨⟨hl,hfe⟩,rfl,rfl⟩:=h
     refine⟨_,_,[], ?_,hK⟩
     simp only[nJ,hev]
     exact⟨fun H _=>(O1 hc).fresh (fD hfit) hb hl (fD hfe) H id,fun b q h=>by simp only[Option.some.injEq,Prod.mk.injEq] at h;exact h.1.symm⟩
    ·simp at h
   ·rename_i r1 H1 nx1 _ hc
    simp only[Option.ite_none_right_eq_some,Option.some.injEq,Prod.mk.injEq] at h
    obtain⟨hz,rfl,rfl⟩:=h
    refine⟨_,none,[], ?_,hK⟩
    rw[hev]
    exact Pure.IV (fD hfit) (cM.pure (H':=H1) (O1 hc) (mi hz))
   ·simp at h
  ·simp at h
 ·rename_i hnc
  have e:kC P id fr H op K=jz (cA id fr H op) fun p=>K p.1 p.2 (ND fr op):=by
   cases op<;>first|rfl|exact absurd rfl (hnc _ _)
  rw[e,h]
  exact hK
theorem oD {P:Program} {F:CF} (hF:Ok P F):∀{gs:List iT} {id:Nat} {fr:Fr} {H:Hp} {tr:Tr} {fr':Fr} {H':Hp} {tr':Tr},ug F id gs fr H tr=some (fr',H',tr')->ic P id gs fr H tr (fun a b c=>a=fr'/\b=H'/\c=tr')
 |[],id,fr,H,tr,fr',H',tr',h=>by
  simp only[ug,Option.some.injEq,Prod.mk.injEq] at h
  exact h
 |g::gs,id,fr,H,tr,fr',H',tr',h=>by
  simp only[ug] at h
  refine qX h (fun ha=> ?_) fun hb=>oD hF hb
  split at ha
  ·rename_i r u hs
   exact yL hF hs (oD hF ha)
  ·simp at ha
theorem yb {s t:List Nat×Option Nat} (h:EI s t=true):vF s t:=by
 obtain⟨s1,s2⟩:=s
 obtain⟨t1,t2⟩:=t
 unfold EI at h
 unfold vF
 cases s2<;>cases t2<;>simp_all
 exact fun h'=>h.2 h'.symm
theorem vU {cH:Nat->Bool}:∀{H:Hp} {seen:List Nat} (b:Nat),bk (pr cH seen H) b=if seen.contains b then none else if cH b then bk H b else none
 |[],seen,b=>by simp[pr,bk]
 |(d,k)::r,seen,b=>by
  simp only[pr]
  by_cases hd:seen.contains d=true
  ·rw[if_pos hd,vU b]
   simp only[bk]
   by_cases hb:b=d
   ·subst hb;simp only[hd,if_true]
   ·simp[hb]
  ·rw[if_neg hd]
   by_cases hk:cH d=true
   ·rw[if_pos hk]
    simp only[bk]
    by_cases hb:b=d
    ·subst hb;rw[if_pos rfl,if_neg hd,if_pos hk,if_pos rfl]
    ·rw[if_neg hb,vU b,if_neg hb]
     simp[hb]
   ·rw[if_neg hk,vU b]
    simp only[bk]
    by_cases hb:b=d
    ·subst hb;simp[hk]
    ·simp[hb]
theorem vT:∀{fr:Fr} {seen:List Nat} (t:Nat),seen.contains t=false->cc (LN seen fr) t=cc fr t
 |[],seen,t,_=>rfl
 |(d,k)::r,seen,t,h=>by
  simp only[LN]
  by_cases hd:seen.contains d=true
  ·rw[if_pos hd,vT t h]
   simp only[cc]
   have:t≠d:=by rintro rfl;rw[h] at hd;cases hd
   rw[if_neg this]
  ·rw[if_neg hd]
   simp only[cc]
   by_cases hb:t=d
   ·rw[if_pos hb,if_pos hb]
   ·rw[if_neg hb,if_neg hb,vT t (by simp only[List.contains_cons,h,Bool.or_false];simpa using hb)]
theorem ES (nx0:Nat) (roots:List Nat) (H:Hp) (b:Nat):bk (gc nx0 roots H) b=bk H b\/bk (gc nx0 roots H) b=none:=by
 unfold gc
 simp only[vU]
 simp only[List.contains_nil,Bool.false_eq_true,if_false]
 split
 ·exact .inl rfl
 ·exact .inr rfl
theorem dO.drop {w0:World} {c:Cx} (h:dO w0 c) {H':Nat->Option eO} (hH:∀b,H' b=c.H b\/H' b=none):dO w0 { c with H:=H' }/\c.le { c with H:=H' }:=by
 have hs:∀b k,H' b=some k->c.H b=some k:=fun b k hk=>by
  rcases hH b with e|e
  ·rw[<-e];exact hk
  ·rw[e] at hk;cases hk
 have hle:c.le { c with H:=H' }:=by
  refine⟨fun _ h=>h,Nat.le_refl _,fun b hm _=>⟨rfl, ?_⟩,fun b _ e sz d es he=>⟨_,_,_,hs b _ he, .inl ⟨rfl,rfl⟩⟩⟩
  rintro(h0|⟨x,k,o,z,hk,hρ⟩)
  ·exact hm (.inl h0)
  ·exact hm (.inr ⟨x,k,o,z,hs x k hk,hρ⟩)
 refine⟨⟨h.below,h.m0,fun b e sz d es he=> ?_,fun b b' k k' blk o z o' z' hk hk'=>h.inj b b' k k' blk o z o' z' (hs _ _ hk) (hs _ _ hk')⟩,hle⟩
 obtain⟨p1,p3⟩:=h.row b e sz d es (hs _ _ he)
 exact⟨p1,p3.cH hle rfl fun _ _ _ _ _=>rfl⟩
theorem vm.drop {lo n:Nat} {fr fr':Fr} {H H':Hp} {nx:Nat} (h1:∀t,cc fr' t=cc fr t) (h2:∀b,bk H' b=bk H b\/bk H' b=none):vm lo n fr H nx fr' H' nx:=by
 rintro w0 M0 c0 a w ⟨hn,hd,ρ,U,hU,hS,hF,hT⟩
 obtain⟨s1,s2⟩:=hS.drop h2
 exact⟨hn,hd,ρ,U,hU,s1,fun t=>by rw[h1];exact VR.cH s2 (hF t),hT.to s2⟩
theorem cM.drop {P:Program} {f:FuncId} {args:List AV} {H:Hp} {nx:Nat} {r:AV} {H1 H2:Hp} {nx1:Nat} (h:cM P f args H nx (fun a b c=>a=r/\b=H1/\c=nx1)) (h2:∀b,bk H2 b=bk H1 b\/bk H2 b=none):
 cM P f args H nx (fun a b c=>a=r/\b=H2/\c=nx1):=by
 refine⟨h.1,fun w0 c vs a1 a2 a3 a4=>(h.2 w0 c vs a1 a2 a3 a4).mono ?_⟩
 rintro e w' ⟨v,r1,H3,nx3,ρ,U,he,⟨rfl,rfl,rfl⟩,hU,hS,hle,hv⟩
 obtain⟨s1,s2⟩:=hS.drop h2
 exact⟨v,_,_,_,ρ,U,he,⟨rfl,rfl,rfl⟩,hU,s1,hle.trans s2,VR.cH s2 hv⟩
abbrev xQ (e:Ex) (fr:Fr) (H:Hp) (nx:Nat):QT:=fun e1 fr1 H1 nx1=>e1=e/\fr1=fr/\H1=H/\nx1=nx
theorem sE {P:Program} {n lo nx0:Nat} {x:LC} {f:Fr->Hp->Nat->Option (Ex×Fr×Hp×Nat)} (hx:∀{fr H nx e fr' H' nx'},f fr H nx=some (e,fr',H',nx')->WL P n lo x fr H nx (xQ e fr' H' nx')) {c1:Code} (h1:cg P n c1=some x)
 (w0:World) (M0:Nat->Prop) (c0:Cx) (b:Frame) (kk:List Item) (cs:List Frame):
 ∀(k:Nat) {fr:Fr} {H:Hp} {nx:Nat} {e:Ex} {fr':Fr} {H':Hp} {nx':Nat},xU f nx0 k fr H nx=some (e,fr',H',nx')->∀a w,ef w0 M0 c0 lo n fr H nx a w->
  ∃e1 a' w',LQ w0 M0 c0 lo n (xQ e fr' H' nx') e1 a' w'/\Arrives P (lone (b.at a (.code c1:: .inLoop c1::kk)) cs w) b kk cs e1 a' w'
 |0,fr,H,nx,e,fr',H',nx',h=>by simp[xU] at h
 |k+1,fr,H,nx,e,fr',H',nx',h=>by
  intro a w hh
  simp only[xU] at h
  split at h
  ·rename_i fr1 H1 nx1 hf
   obtain⟨e1,a1,w1,hq,harr⟩:=hx hf c1 h1 w0 M0 c0 a w hh b (.inLoop c1::kk) cs
   obtain⟨x',fr2,H2,nx2,rfl,⟨rfl,rfl,rfl,rfl⟩,hh'⟩:=hq
   have hh2:=(vm.drop (lo:=lo) (n:=n) (fr:=fr2) (fr':=LN [] fr2) (H:=H2) (H':=gc nx0 (o4 ((LN [] fr2).map (·.2))) H2) (nx:=nx2) (fun t=>vT t rfl) (ES _ _ _)) _ _ _ _ _ hh'
   obtain⟨e2,a2,w2,hq2,harr2⟩:=sE hx h1 w0 M0 c0 b kk cs k h a1 w1 hh2
   exact⟨e2,a2,w2,hq2, .of_steps (Steps.trans harr (.one step_inLoop)) harr2⟩
  ·obtain⟨e1,a1,w1,hq,harr⟩:=hx h c1 h1 w0 M0 c0 a w hh b (.inLoop c1::kk) cs
   obtain⟨x',fr2,H2,nx2,rfl,⟨rfl,rfl,rfl,rfl⟩,hh'⟩:=hq
   rename_i hne
   cases x' with
   |normal=>exact absurd h (hne _ _ _)
   |exit id=>exact⟨_,a1,w1,⟨.exit id,_,_,_,rfl,⟨rfl,rfl,rfl,rfl⟩,hh'⟩, .pass (x:= .inLoop c1) rfl (fun _ _=> .inl (by simp[Ex.to])) harr⟩
   |ret=>exact⟨_,a1,w1,⟨.ret,_,_,_,rfl,⟨rfl,rfl,rfl,rfl⟩,hh'⟩, .pass (x:= .inLoop c1) rfl (fun _ _=> .inl (by simp[Ex.to])) harr⟩
theorem cM.mono {P:Program} {f:FuncId} {args:List AV} {H:Hp} {nx:Nat} {R R':AV->Hp->Nat->Prop} (h:cM P f args H nx R) (hr:∀r H n,R r H n->R' r H n):cM P f args H nx R':=
 ⟨h.1,fun w0 c vs a1 a2 a3 a4=>(h.2 w0 c vs a1 a2 a3 a4).mono fun _ _ ⟨v,r,H',nx',ρ,U,he,hR,hrest⟩=>⟨v,r,H',nx',ρ,U,he,hr _ _ _ hR,hrest⟩⟩
theorem tO.mono {P:Program} {t:TypeId} {v:AV} {nm:String} {args:List AV} {H:Hp} {nx:Nat} {R R':AV->Hp->Nat->Prop} (h:tO P t v nm args H nx R) (hr:∀r H n,R r H n->R' r H n):tO P t v nm args H nx R':=by
 obtain⟨f,md,hm,hc⟩:=h
 refine⟨f,md,hm, ?_⟩
 cases md with
 |none=>exact cM.mono hc hr
 |some p=>obtain⟨sz,e,off,r,h1,h2,h3⟩:=hc;exact⟨sz,e,off,r,h1,h2,cM.mono h3 hr⟩
theorem fK.mono {P:Program} {nx:Nat} {fr:Fr} {H:Hp} {op:cy} {K K':AV->Hp->Nat->Prop} (h:fK P nx fr H op K) (hk:∀r H n,K r H n->K' r H n):fK P nx fr H op K':=by
 cases op
 case call f as=>
  simp only[fK,qw] at h ⊢
  split at h
  ·exact h.mono hk
  ·exact tO.mono h hk
  ·exact h.elim
 all_goals
  simp only[fK] at h ⊢
  generalize cA nx fr H _=x at h ⊢
  cases x with
  |none=>exact h
  |some p=>exact hk _ _ _ h
theorem fA.mono {P:Program}:∀{gs:List iT} {nx:Nat} {fr:Fr} {H:Hp} {K K':Fr->Hp->Nat->Prop},fA P nx gs fr H K->(∀fr H nx,K fr H nx->K' fr H nx)->fA P nx gs fr H K'
 |[],_,_,_,_,_,h,hk=>hk _ _ _ h
 |_::_,_,_,_,_,_,h,hk=>cz.mono h (fun h=>fK.mono h fun _ _ _ h=>fA.mono h hk) fun h=>fA.mono h hk
theorem ic.mono {P:Program}:∀{gs:List iT} {id:Nat} {fr:Fr} {H:Hp} {tr:Tr} {K K':Fr->Hp->Tr->Prop},ic P id gs fr H tr K->(∀fr H tr,K fr H tr->K' fr H tr)->ic P id gs fr H tr K'
 |[],_,_,_,_,_,_,h,hk=>hk _ _ _ h
 |_::_,_,_,_,_,_,_,h,hk=>cz.mono h (fun h=>h.mono fun _ _ _ h=>ic.mono h hk) fun h=>ic.mono h hk
theorem ig.mono {P:Program}:∀{segs:List uj} {nx:Nat} {fr:Fr} {H:Hp} {K K':Fr->Hp->Nat->Prop},ig P nx segs fr H K->(∀fr H nx,K fr H nx->K' fr H nx)->ig P nx segs fr H K'
 |[],_,_,_,_,_,h,hk=>hk _ _ _ h
 |⟨[],ps⟩::rest,nx,fr,H,K,K',h,hk=>⟨h.1,ig.mono h.2 hk⟩
 |⟨[g],ps⟩::rest,nx,fr,H,K,K',h,hk=>by
  simp only[ig] at h ⊢
  exact cz.mono h (fun h=>fK.mono h fun _ _ _ h=>ig.mono h hk) fun h=>ig.mono h hk
 |⟨g1::g2::gs,ps⟩::rest,nx,fr,H,K,K',h,hk=>by
  simp only[ig] at h ⊢
  exact ic.mono h fun _ _ _ ⟨h1,h2⟩=>⟨h1,ig.mono h2 hk⟩
theorem oE {P:Program} {F:CF} (hF:Ok P F):∀{segs:List uj} {fr:Fr} {H:Hp} {nx:Nat} {fr':Fr} {H':Hp} {nx':Nat},sr F segs fr H nx=some (fr',H',nx')->ig P nx segs fr H (fun a b c=>a=fr'/\b=H'/\c=nx')
 |[],fr,H,nx,fr',H',nx',h=>by
  simp only[sr,Option.some.injEq,Prod.mk.injEq] at h
  exact h
 |s::rest,fr,H,nx,fr',H',nx',h=>by
  obtain⟨gs,ps⟩:=s
  by_cases hsing:∃g,gs=[g]
  ·obtain⟨g,rfl⟩:=hsing
   simp only[sr] at h
   split at h
   ·rename_i fr1 H1 nx1 hs
    have h1:=lC hF hs
    refine fA.mono (K':=fun a b c=>ig P c rest a b _) h1 ?_
    rintro a b c ⟨rfl,rfl,rfl⟩
    exact oE hF h
   ·simp at h
  ·simp only[sr] at h
   split at h
   ·exact absurd ⟨_,rfl⟩ hsing
   ·split at h
    ·rename_i fr1 H1 tr hs
     simp only[Option.ite_none_right_eq_some] at h
     obtain⟨hfar,h⟩:=h
     have h1:=oD hF hs
     have h2:ic P nx gs fr H [] fun a b tr=>iw tr ps/\ig P (nx+gs.length) rest a b (fun a b c=>a=fr'/\b=H'/\c=nx'):=by
      refine ic.mono h1 ?_
      rintro a b c ⟨rfl,rfl,rfl⟩
      exact⟨fun p hp=>yb (List.all_eq_true.1 hfar p hp),oE hF h⟩
     match gs,hsing,h2 with
     |[],_,h2=>exact h2
     |[g],hsing,_=>exact absurd ⟨_,rfl⟩ hsing
     |g1::g2::gs,_,h2=>exact h2
    ·simp at h
theorem fZ {P:Program} {F:CF} (hF:Ok P F) {n lo nx0:Nat}:∀{lc:LC} {fr:Fr} {H:Hp} {nx:Nat} {e:Ex} {fr':Fr} {H':Hp} {nx':Nat},iX F nx0 lc fr H nx=some (e,fr',H',nx')->WL P n lo lc fr H nx (xQ e fr' H' nx')
 | .skip,fr,H,nx,e,fr',H',nx',h=>by
  simp only[iX,Option.some.injEq,Prod.mk.injEq] at h
  obtain⟨rfl,rfl,rfl,rfl⟩:=h
  exact WL.skip ⟨rfl,rfl,rfl,rfl⟩
 | .ret,fr,H,nx,e,fr',H',nx',h=>by
  simp only[iX,Option.some.injEq,Prod.mk.injEq] at h
  obtain⟨rfl,rfl,rfl,rfl⟩:=h
  exact WL.ret ⟨rfl,rfl,rfl,rfl⟩
 | .exit id,fr,H,nx,e,fr',H',nx',h=>by
  simp only[iX,Option.some.injEq,Prod.mk.injEq] at h
  obtain⟨rfl,rfl,rfl,rfl⟩:=h
  exact WL.exit ⟨rfl,rfl,rfl,rfl⟩
 | .region ops,fr,H,nx,e,fr',H',nx',h=>by
  simp only[iX] at h
  split at h
  ·rename_i fr1 H1 nx1 hs
   simp only[Option.some.injEq,Prod.mk.injEq] at h
   obtain⟨rfl,rfl,rfl,rfl⟩:=h
   have:=lC hF hs
   have q:fA P nx ops fr H (fun a b c=>xQ .normal fr1 H1 nx1 .normal a b c):=by
    simpa[xQ] using this
   exact WL.region q
  ·simp at h
 | .drawn segs,fr,H,nx,e,fr',H',nx',h=>by
  simp only[iX] at h
  split at h
  ·rename_i fr1 H1 nx1 hs
   simp only[Option.some.injEq,Prod.mk.injEq] at h
   obtain⟨rfl,rfl,rfl,rfl⟩:=h
   refine WL.drawn ((oE hF hs).mono ?_)
   rintro a b c ⟨rfl,rfl,rfl⟩
   exact⟨rfl,rfl,rfl,rfl⟩
  ·simp at h
 | .seq a b,fr,H,nx,e,fr',H',nx',h=>by
  simp only[iX] at h
  split at h
  ·rename_i fr1 H1 nx1 hs
   refine WL.seq ((fZ hF hs).mono ?_)
   rintro e1 fr2 H2 nx2 ⟨rfl,rfl,rfl,rfl⟩
   exact fZ hF h
  ·rename_i hne
   refine WL.seq ((fZ hF h).mono ?_)
   rintro e1 fr2 H2 nx2 ⟨rfl,rfl,rfl,rfl⟩
   cases e1 with
   |normal=>exact absurd h (hne _ _ _)
   |exit id=>exact⟨rfl,rfl,rfl,rfl⟩
   |ret=>exact⟨rfl,rfl,rfl,rfl⟩
 | .cond c a b,fr,H,nx,e,fr',H',nx',h=>by
  simp only[iX] at h
  split at h
  ·rename_i t ht
   cases t with
   |true=>exact WL.cond ht (fun _=>fZ hF (by simpa using h)) (fun h=>by cases h)
   |false=>exact WL.cond ht (fun h=>by cases h) (fun _=>fZ hF (by simpa using h))
  ·simp at h
 | .block id a,fr,H,nx,e,fr',H',nx',h=>by
  simp only[iX] at h
  split at h
  ·rename_i id' fr1 H1 nx1 hs
   refine WL.block ((fZ hF hs).mono ?_)
   rintro e1 fr2 H2 nx2 ⟨rfl,rfl,rfl,rfl⟩
   simp only[ux]
   split at h
   ·rename_i he
    simp only[Option.some.injEq,Prod.mk.injEq] at h
    obtain⟨rfl,rfl,rfl,rfl⟩:=h
    rw[if_pos he];exact⟨rfl,rfl,rfl,rfl⟩
   ·rename_i he
    simp only[Option.some.injEq,Prod.mk.injEq] at h
    obtain⟨rfl,rfl,rfl,rfl⟩:=h
    rw[if_neg he];exact⟨rfl,rfl,rfl,rfl⟩
  ·rename_i hne
   refine WL.block ((fZ hF h).mono ?_)
   rintro e1 fr2 H2 nx2 ⟨rfl,rfl,rfl,rfl⟩
   cases e1 with
   |normal=>exact⟨rfl,rfl,rfl,rfl⟩
   |exit id'=>exact absurd h (hne _ _ _ _)
   |ret=>exact⟨rfl,rfl,rfl,rfl⟩
 | .loop a,fr,H,nx,e,fr',H',nx',h=>by
  intro code hc w0 M0 c0 ac w hh
  have:∃c1,code= .loop c1/\cg P n c1=some a:=by
   cases code<;>simp only[cg] at hc
   case loop c1=>
    simp only[Option.map_eq_some_iff,LC.loop.injEq] at hc
    obtain⟨x',h1,rfl⟩:=hc
    exact⟨c1,rfl,h1⟩
   all_goals (exfalso;repeat' (split at hc))<;>simp at hc
  obtain⟨c1,rfl,h1⟩:=this
  intro b k cs
  simp only[iX] at h
  obtain⟨e2,a2,w2,hq,harr⟩:=sE (fun h=>fZ hF h) h1 w0 M0 c0 b k cs _ h ac w hh
  exact⟨e2,a2,w2,hq, .of_steps (.one step_loop) harr⟩
def LS (P:Program) (e:LF):Prop:=∃fn,P.funcs[e.f]?=some fn/\(fn.name== "runtime.NumGoroutine")=false/\(fn.body.bind (cg P fn.ntmps))=some e.lc/\iO P fn.results.toList=some e.res/\e.n=fn.ntmps
def OS (P:Program):List LF->Prop
 |[]=>True
 |e::r=>LS P e/\OS P r
theorem uI {P:Program}:∀{T:List LF},OS P T->∀{f:FuncId} {e:LF},ET T f=some e->e.f=f/\LS P e
 |[],_,f,e,h=>by simp[ET] at h
 |x::r,hT,f,e,h=>by
  simp only[ET] at h
  split at h
  ·rename_i hf
   simp only[Option.some.injEq] at h
   subst h
   exact⟨hf,hT.1⟩
  ·exact uI hT.2 h
theorem oC {P:Program} {T:List LF} (hT:OS P T):∀k,Ok P (uf T k)
 |0,f,args,H,nx,r,H',nx',h=>by simp[uf] at h
 |k+1,f,args,H,nx,r,H',nx',h=>by
  simp only[uf] at h
  split at h
  ·rename_i e he
   obtain⟨hef,fn,g1,g2,g3,g4,g5⟩:=uI hT he
   subst hef
   simp only[Option.ite_none_right_eq_some] at h
   obtain⟨hlen,h⟩:=h
   by_cases hfz:e.fz=true
   ·rw[if_pos hfz] at h
    simp only[Option.ite_none_right_eq_some] at h
    obtain⟨hfit,h⟩:=h
    split at h
    ·simp at h
    ·rename_i x fr1 H1 nx1 hx hc
     split at h
     ·rename_i rs hrs
      simp only[Option.ite_none_right_eq_some,Option.some.injEq,Prod.mk.injEq] at h
      obtain⟨hz,rfl,rfl,rfl⟩:=h
      have hN:cM P e.f args [] 0 (fun a b _=>a=pack rs/\b=H1):=by
       refine cM.mW g1 g2 g3 g4 (by omega) ?_
       refine(fZ (oC hT k) hc).mono ?_
       rintro e1 fr2 H2 nx2 ⟨rfl,rfl,rfl,rfl⟩
       cases e1 with
       |exit id=>exact absurd rfl (hx id)
       |normal=>simp only[ze,hrs,jz,and_self]
       |ret=>simp only[ze,hrs,jz,and_self]
      exact(hN.pure (mi hz)).eE (fD hfit) fun r hr=>⟨hr,rfl,rfl⟩
     ·simp at h
    ·simp at h
   rw[if_neg hfz] at h
   split at h
   ·simp at h
   ·rename_i x fr1 H1 nx1 hx hc
    split at h
    ·rename_i rs hrs
     simp only[Option.some.injEq,Prod.mk.injEq] at h
     obtain⟨rfl,rfl,rfl⟩:=h
     refine cM.drop (H1:=H1) ?_ (ES _ _ _)
     refine cM.mW g1 g2 g3 g4 (by omega) ?_
     refine(fZ (oC hT k) hc).mono ?_
     rintro e1 fr2 H2 nx2 ⟨rfl,rfl,rfl,rfl⟩
     cases e1 with
     |exit id=>exact absurd rfl (hx id)
     |normal=>simp only[ze,hrs,jz,and_self]
     |ret=>simp only[ze,hrs,jz,and_self]
    ·simp at h
   ·simp at h
  ·simp at h
end Go.dD
