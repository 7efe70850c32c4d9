import Derived.Test.YtjopoheligmmoaaGreatDoorM25
import Derived.Test.YtjopoheligmmoaaGreatDoorM26
import Derived.Lib.TrailingZeros
namespace Go.Proofs.YtjopoheligmmoaaGreatDoor
open Go Go.cw Go.Proofs
set_option linter.unusedSimpArgs false
set_option linter.unusedVariables false
theorem uO {α:Type} (F:List Int->α) (n:Node) (h:n.kind=8->F [n.next,n.next]=F [n.next]):F n.fold=F n.gh:=by
 unfold Node.fold Node.gh
 by_cases h9:n.kind=9
 ·rw[if_pos h9,if_pos h9]
 ·rw[if_neg h9,if_neg h9]
  by_cases h8:n.kind=8
  ·rw[if_pos h8]
   by_cases he:n.rN=n.next
   ·rw[if_neg (fun h=>h.2 he),he,h h8]
   ·rw[if_pos ⟨h8,he⟩]
  ·rw[if_neg h8,if_neg (fun h=>h8 h.1)]
theorem J8 {g:cG} (hw:Whole g) {i:Nat} (hi:i<g.nodes.length) (s:List Bool×List Int) (hs:s.1.length=g.nodes.length):lK (g.nd i).fold s=lK (g.nd i).gh s:=
 uO (fun l=>lK l s) (g.nd i) fun h8=>E7 _ s (by
  rw[hs]
  refine((hw.2.2 i hi).2.2 _ ?_).2
  unfold Node.gh
  rw[if_neg (by omega),if_pos h8];simp)
theorem Q8 {α:Type} {n i:Nat} {x:α}:(List.replicate n x).getD i x=x:=by
 simp only[List.getD,List.getElem?_replicate];split<;>rfl
theorem qA {l:List Bool} {k:Int} (d:AV) (h:k.toNat<l.length):(l.map bl).getD k.toNat d=bl (lN l k):=by
 rw[show lN l k=l.getD k.toNat default from rfl];exact cx bl l _ d h
theorem nI {l:List Bool} {k:Nat} (v:Bool):(l.map bl).set k (bl v)=(l.set k v).map bl:=by rw[List.map_set]
theorem gM (l:List Int) (k:Int):l.map i64++[i64 k]=(l++[k]).map i64:=by simp
theorem J7 (s:List Bool×List Int) (l:List Int) {j:Nat} (h:j<l.length):lK (l.drop j) s=if lN s.1 (l.getD j 0)=false then lK (l.drop (j+1)) (s.1.set (l.getD j 0).toNat true,s.2++[l.getD j 0]) else lK (l.drop (j+1)) s:=by
 rw[List.drop_eq_getElem_cons h,lK,gd h]
set_option maxHeartbeats 1000000 in
theorem BK (g:cG) (hg:g.Wf) (hw:Whole g) (cut:Int) (hcut:ee cut):Pure Tryz.prog 199 [g.av,i64 cut] (fun r=>r=F9 (gS g cut)):=by
 refine mV (by simp[cH,cD]) ?_
 refine aJ YB rfl ?_
 have hl:=hg.len
 have hl0:=hw.1
 have hl1:=hw.2.1
 unfold ee at hcut
 repeat' (first|refine aQ ?_|exact eh|with_reducible refine aB ?_ ?_|((with_reducible refine Ask.mk ?_);first|exact dJ|exact cj|(intro h;simp_all[cG.cells]<;>fail)|(simp_all[cG.cells]<;>fail))|(apply aA;(·(first|exact Q8|exact cL)))|refine aH ?_|((with_reducible refine aE ?_ ?_)<;>intro hc<;>try(exfalso;omega)))
 have e5:(List.replicate ((g.nodes.map Node.av).length:Int).toNat (AV.sc (.bool false))).set (0:Int).toNat (AV.sc (.bool true))=((List.replicate g.nodes.length false).set 0 true).map bl:=by
  simp[List.map_set]
 refine aR (fun s:List Bool×List Int×Nat=>[(1,i64 cut),(2, .pt 0 1 0 0),(5, .sl 5 g.nodes.length),(6, .sl s.2.2 s.2.1.length)])
  (fun s H n=>12<=n/\5<s.2.2/\s.2.2<n/\(∃d,bt H 0=some (.row 60 4 d [g.av]))/\(∃d,bt H 5=some (.row 4 1 d (s.1.map bl)))/\(∃d,bt H s.2.2=some (.row 3 1 d (s.2.1.map i64)))/\mg g cut s.1 s.2.1/\s.2.1.length+s.1.count false<=g.nodes.length)
  (fun s=>s.2.1.length+s.1.count false) ((List.replicate g.nodes.length false).set 0 true,[0],10) ⟨_,_,_,Rt.refl _ _ _,(by simp only[List.length_map];exact cC),cX,cX,cX,⟨_,bu⟩,⟨_,by rw[<-e5];exact bu⟩,⟨_,bu⟩,mg.start hw, ?_⟩ ?_
 ·have:=count_set (l:=List.replicate g.nodes.length false) (i:=0) (by simp;omega) (by simp[List.getD,List.getElem?_replicate];split<;>rfl)
  simp only[List.count_replicate_self] at this
  simp only[List.length_cons,List.length_nil]
  omega
 rintro⟨out,todo,tb⟩ H n ⟨hn,ht5,htn,⟨d0,r0⟩,⟨d5,r5⟩,⟨dt,rt⟩,hgo,hcnt⟩
 dsimp only at ht5 htn r5 rt hgo hcnt ⊢
 have hol:=hgo.len
 by_cases hne:todo=[]
 ·subst hne
  have e1:=hgo.fin hw
  repeat' (first|refine aQ ?_|exact aC|with_reducible refine aB ?_ ?_|(apply aA;(·exact cL))|refine aH ?_|((with_reducible refine aE ?_ ?_)<;>intro hc<;>try(exfalso;omega)))
  refine⟨.inr ?_⟩
  rw[<-e1]
  refine(dH bu (by simp[hol])).trans ?_
  rw[cn _ (HW _ _)]
 ·obtain⟨a,x,rfl⟩:∃a x,todo=a++[x]:=⟨todo.dropLast,todo.getLast hne,(List.dropLast_concat_getLast hne).symm⟩
  obtain⟨x0,x1,x2⟩:=hgo.inr x (by simp)
  have x1o:=x1
  rw[hol] at x1
  have hla:(a++[x]).length=a.length+1:=by simp
  have hml:((a++[x]).map i64).length=a.length+1:=by simp
  have htk:(((a++[x]).map i64).drop 0).take a.length=a.map i64:=by simp
  rw[hla] at hcnt ⊢
  have e1:∀d,((a++[x]).map i64).getD (((a.length+1:Nat):Int) - 1).toNat d=i64 x:=fun d=>by
   rw[show(((a.length+1:Nat):Int) - 1).toNat=a.length by omega,List.map_append]
   simp[List.getD]
  have hf:=mN (g.nd x.toNat)
  unfold fE at hf
  repeat' (first|refine aQ ?_|exact eh|with_reducible refine aB ?_ ?_|((with_reducible refine Ask.mk ?_);first|exact dJ|(exact hml)|exact cj|(intro h;simp_all[cG.cells,Node.cells]<;>fail)|(simp_all[cG.cells,Node.cells]<;>fail))|(apply aA;(·(first|exact gm x1 _|exact e1 _|exact cL)))|refine aK (hf) ?_|refine aH ?_|((with_reducible refine aE ?_ ?_)<;>intro hc<;>try(exfalso;omega)))
  ·rename_i hxc
   have hxc:x=cut:=hc
   subst hxc
   refine⟨(out,a,_), ?_,_,_,_,Rt.part (d2:=dt) (l:=(a++[x]).map i64) (n:=a.length) 6 rfl bu hml (by omega),cC,cX,cX,cX,⟨_,bu⟩,⟨_,bu⟩,⟨.any,by rw[<-htk];exact bu⟩,(by have:=hgo.cut (a:=a) (b:=[]) rfl;rwa[List.append_nil] at this),(by dsimp only;omega)⟩
   dsimp only
   omega
  ·have hxc:¬x=cut:=hc
   simp only[List.length_map]
   clear hf
   refine aR (fun q:(List Bool×List Int)×Nat×Nat=>[(1,i64 cut),(2, .pt 0 1 0 0),(5, .sl 5 g.nodes.length),(6, .sl q.2.1 q.1.2.length),(39,fE (g.nd x.toNat).fold),(40,i64 (g.nd x.toNat).fold.length),(41,i64 q.2.2)])
    (fun q H2 n2=>q.2.2<=(g.nd x.toNat).fold.length/\n<=n2/\5<q.2.1/\q.2.1<n2/\(∃d,bt H2 0=some (.row 60 4 d [g.av]))/\(∃d,bt H2 5=some (.row 4 1 d (q.1.1.map bl)))/\(∃d,bt H2 q.2.1=some (.row 3 1 d (q.1.2.map i64)))/\q.1.1.length=g.nodes.length/\lK ((g.nd x.toNat).fold.drop q.2.2) q.1=lK (g.nd x.toNat).fold (out,a)/\q.1.2.length+q.1.1.count false<=g.nodes.length)
    (fun q=>(g.nd x.toNat).fold.length - q.2.2) ((out,a),_,0) ⟨_,_,_,Rt.part (d2:=dt) (l:=(a++[x]).map i64) (n:=a.length) 6 rfl bu hml (by omega),cC,Nat.zero_le _,cX,cX,cX,⟨_,bu⟩,⟨_,bu⟩,⟨.any,by rw[<-htk];exact bu⟩,hol,rfl,(by dsimp only;omega)⟩ ?_
   have hfl:=uN (g.nd x.toNat)
   clear r0 r5 rt
   rintro⟨⟨o2,t2⟩,b2,j⟩ H2 n2 ⟨hj,hn2,hb5,hbn,⟨d02,r0⟩,⟨d52,r5⟩,⟨dt2,rt⟩,ho2,hsp,hc2⟩
   dsimp only at hj hn2 hb5 hbn r5 rt ho2 hsp hc2 ⊢
   unfold fE
   by_cases hjl:j<(g.nd x.toNat).fold.length
   ·have hm:=kJ.1 (cO 0 hjl)
    obtain⟨k0,k1⟩:=(hw.2.2 x.toNat x1).2.2 _ hm
    have hk:(((g.nd x.toNat).fold.getD j 0).toNat:Int)=(g.nd x.toNat).fold.getD j 0:=by omega
    have ek:=fun d=>qA (l:=o2) (k:=(g.nd x.toNat).fold.getD j 0) d (by rw[ho2];exact k1)
    rw[J7 _ _ hjl] at hsp
    have hol2:(o2.map bl).length=g.nodes.length:=by simp[ho2]
    have htl:(t2.map i64).length=t2.length:=by simp
    cases hfd:lN o2 ((g.nd x.toNat).fold.getD j 0) with
    |true=>
     rw[if_neg (by rw[hfd];decide)] at hsp
     rw[hfd] at ek
     repeat' (first|refine aQ ?_|exact eh|with_reducible refine aB ?_ ?_|((with_reducible refine Ask.mk ?_);first|exact dJ|(exact hol2)|exact cj)|(apply aA;(·(first|exact jP hjl _|exact ek _|exact cL)))|refine aH ?_|((with_reducible refine aE ?_ ?_)<;>intro hc<;>try(exfalso;omega)))
     exact⟨((o2,t2),b2,j+1),by dsimp only;omega,_,_,_,Rt.refl _ _ _,cC,by dsimp only;omega,cX,hb5,cX,⟨_,bu⟩,⟨_,bu⟩,⟨_,bu⟩,ho2,hsp,hc2⟩
    |false=>
     rw[if_pos hfd] at hsp
     rw[hfd] at ek
     have hct:=count_set (l:=o2) (i:=((g.nd x.toNat).fold.getD j 0).toNat) (by rw[ho2];exact k1) hfd
     repeat' (first|refine aQ ?_|exact eh|with_reducible refine aB ?_ ?_|((with_reducible refine Ask.mk ?_);first|exact dJ|(exact hol2)|exact cj)|(apply aA;(·(first|exact jP hjl _|exact ek _|exact cL)))|refine aH ?_|((with_reducible refine aE ?_ ?_)<;>intro hc<;>try(exfalso;omega)))
     refine⟨((o2.set ((g.nd x.toNat).fold.getD j 0).toNat true,t2++[(g.nd x.toNat).fold.getD j 0]),b2,j+1),by dsimp only;omega,_,_,_,Rt.refl _ _ _,cC,by dsimp only;omega,cX,hb5,cX,⟨_,bu⟩,⟨_,by rw[<-nI];exact bu⟩,⟨_,by rw[<-gM];exact bu⟩,by simp[ho2],hsp, ?_⟩
     simp only[List.length_append,List.length_cons,List.length_nil]
     omega
   ·have:j=(g.nd x.toNat).fold.length:=by omega
    subst this
    rw[List.drop_eq_nil_of_le (Nat.le_refl _),lK,J8 hw x1 _ hol] at hsp
    have sp:=kj (g.nd x.toNat).gh (out,a) (fun k hk=>by have:=(hw.2.2 x.toNat x1).2.2 k hk;rw[<-hol] at this;exact this)
    rw[<-hsp] at sp
    obtain⟨t',e1,_,_,e4⟩:=sp.more
    dsimp only at e1 e4
    have hon:=hgo.on hw (a:=a) (b:=[]) rfl hxc (t:=a) hsp.symm e1
    rw[List.append_nil,<-e1] at hon
    have hlt:t2.length=a.length+t'.length:=by rw[e1,List.length_append]
    repeat' (first|refine aQ ?_|exact aC|with_reducible refine aB ?_ ?_|(apply aA;(·exact cL))|refine aH ?_|((with_reducible refine aE ?_ ?_)<;>intro hc<;>try(exfalso;omega)))
    exact⟨(o2,t2,b2),by dsimp only;omega,_,_,_,Rt.refl _ _ _,cC,cX,hb5,cX,⟨_,bu⟩,⟨_,bu⟩,⟨_,bu⟩,hon,hc2⟩
abbrev sj (E:List (Int×Bool)):List AV:=rf (fun n:Int=>Value.int .i64 n) bl E
theorem pQ (E:List (Int×Bool)) (t:Int):na false (.int .i64 t) (sj E) (bl false)=some (bl ((fQ E t).getD false),(fQ E t).isSome):=(DT M9 bl t E (bl false)).trans (by cases fQ E t<;>rfl)
theorem om (E:List (Int×Bool)) (t:Int) (v:Bool):qW false (.int .i64 t) (sj E) (bl v)=some (sj (fS E t v)):=DU M9 bl t v E
def uP (E:List (Int×Bool)) (s:HS):Prop:=∀k:Int,0<=k->(fQ E k).getD false=s.f k
theorem kF {l:List (List Int)} {i:Int} (h:i.toNat<l.length) (d:AV):(l.map fE).getD i.toNat d=fE (l.getD i.toNat []):=cx fE l _ d h
theorem kX {l:List (List Int)} {i:Nat} (v:List Int):(l.map fE).set i (fE v)=(l.set i v).map fE:=by rw[List.map_set]
theorem qQ {g:cG} {f k:Nat} {s:HS} (hk:k<s.todo.length):fq g (f+1) s k=(match dM (g.nd (s.todo.getD k 0).toNat) (s.l (s.todo.getD k 0)) with
 |none=>([],s.todo.getD k 0)
 |some now=>match dQ now (g.nd (s.todo.getD k 0).toNat).gh s with
  | .inl s'=>fq g f s' (k+1)
  | .inr at_=>([],at_)):=by rw[fq,if_pos hk];rfl
def kE (r:List (List Int)×Int):AV:= .dI [.im 1 .any (r.1.map fE),i64 r.2]
theorem zx {l:List Int} {k:Nat} (h:k<l.length) (d:AV):(l.map i64).getD ((k:Int)).toNat d=i64 (l.getD k 0):=jP h d
theorem M8 (l:List Int) {H:Hp}:[AV.im 1 .any (l.map i64)].map (cw.dY H 6)=[AV.im 1 .any (l.map i64)]:=by
 rw[List.map_cons,List.map_nil,dA 6 (by simp[cH,cD])]
theorem gC (now l:List Int) (s:HS) {j:Nat} (h:j<l.length):dQ now (l.drop j) s=if s.f (l.getD j 0)=false then dQ now (l.drop (j+1)) ⟨s.cB.set (l.getD j 0).toNat now,s.found.set (l.getD j 0).toNat true,s.todo++[l.getD j 0]⟩ else if s.l (l.getD j 0)=now then dQ now (l.drop (j+1)) s else .inr (l.getD j 0):=by
 rw[List.drop_eq_getElem_cons h,dQ,gd h]
theorem xr (now:List Int) (a:Int) (s:HS) (h:a.toNat<s.found.length) (hl:s.cB.length=s.found.length):dQ now [a,a] s=dQ now [a] s:=by
 simp only[dQ]
 by_cases h1:s.f a=false
 ·rw[if_pos h1,if_pos h1,if_neg (by rw[HS.wX h];simp),if_pos (by rw[HS.SG (by rw[hl];exact h)];simp)]
 ·simp only[if_neg h1]
  by_cases h2:s.l a=now
  ·simp only[if_pos h2]
  ·simp only[if_neg h2]
theorem H7 {g:cG} (hw:Whole g) {i:Nat} (hi:i<g.nodes.length) {now:List Int} {s:HS} (hl:s.cB.length=g.nodes.length) (hf:s.found.length=g.nodes.length):dQ now (g.nd i).gh s=dQ now (g.nd i).fold s:=
 (uO (fun l=>dQ now l s) (g.nd i) fun h8=>xr now _ s (by
  rw[hf]
  refine((hw.2.2 i hi).2.2 _ ?_).2
  unfold Node.gh
  rw[if_neg (by omega),if_pos h8];simp) (by rw[hl,hf])).symm
def nC (nv:AV) (l:List Int) (H:Hp) (nx:Nat):Prop:=Told nv l H nx/\∀b m,nv= .sl b m->12<b
theorem Told.cc {nv:AV} {l:List Int} {H H2:Hp} {nx nx2:Nat} (h:Told nv l H nx) (hn:nx<=nx2) (hb:∀b m,nv= .sl b m->12<b) (hk:∀b,12<b->b<nx->bt H2 b=bt H b):Told nv l H2 nx2:=by
 rcases h with h|⟨b,d,h1,h2,h3⟩
 ·exact .inl h
 ·exact .inr ⟨b,d,h1,by omega,(hk b (hb _ _ h1) h2).trans h3⟩
theorem nC.cc {nv:AV} {l:List Int} {H H2:Hp} {nx nx2:Nat} (h:nC nv l H nx) (hn:nx<=nx2) (hk:∀b,12<b->b<nx->bt H2 b=bt H b):nC nv l H2 nx2:=⟨h.1.cc hn h.2 hk,h.2⟩
set_option maxRecDepth 8000 in
set_option maxHeartbeats 8000000 in
theorem IM (g:cG) (hg:g.Wf) (hw:Whole g):cU Tryz.prog 73 [g.av] [] 0 (fun r H n=>(∃a,r= .dI [.sc (.slice none 0 0),i64 a]/\eK g=([],a))\/∃b d L,r= .dI [.sl b L.length,i64 (-1)]/\eK g=(L,-1)/\bt H b=some (.row 31 1 d (L.map fE))):=by
 have hl:=hg.len
 have hl0:=hw.1
 have hl1:=hw.2.1
 refine aJ aAf rfl ?_
 repeat' (first|refine aQ ?_|exact eh|with_reducible refine aB ?_ ?_|((with_reducible refine Ask.mk ?_);first|exact dJ|exact cj|(intro h;simp_all[cG.cells]<;>fail)|(simp_all[cG.cells]<;>fail))|(apply aA;(·exact cL))|(apply aO (g:=none);(·exact fun _=>om [] _ _))|refine aH ?_|((with_reducible refine aE ?_ ?_)<;>intro hc<;>try(exfalso;omega)))
 simp only[List.length_map,Int.toNat_natCast]
 refine af (fun s:HS×Nat=>[(1, .pt 0 1 0 0),(4, .sl 6 g.nodes.length),(5, .mp 8),(6, .sl 12 s.1.todo.length),(7,i64 s.2)])
  (fun s H n=>15<=n/\(∃d,bt H 0=some (.row 60 4 d [g.av]))/\(∃d,bt H 6=some (.row 31 1 d (s.1.cB.map fE)))/\(∃d E,bt H 8=some (.row 3 0 d (mapA (sj E)))/\uP E s.1)/\(∃d,bt H 12=some (.row 3 1 d (s.1.todo.map i64)))/\HI g s.1 s.2/\s.2<=g.nodes.length/\(∀i,(s.1.cB.getD i []).length<=s.2)/\fq g (g.nodes.length+1 - s.2) s.1 s.2=eK g)
  (fun s=>g.nodes.length+1 - s.2) (sS g,0) cC ⟨_,_,Wk.UZ (b:=6) (e:=31) (sz:=1) (es:=List.replicate g.nodes.length (.sc (.slice none 0 0))) (d:= .sc (.slice none 0 0)) .any bu (es2:=(sS g).cB.map fE) (by simp[sS]) (fun c c2 _ _=> ?_),cX,⟨_,bu⟩,⟨_,bu⟩,⟨_,fS [] 0 true,bu, ?_⟩,⟨_,bu⟩,HI.start hw,Nat.zero_le _, ?_,rfl⟩ ?_
 ·simp only[sS,List.map_replicate]
  exact dW.rep (db.jE c c2 1 .any) _
 ·intro y hy
  have:=mM (l:=List.replicate g.nodes.length false) (i:=0) (by simp;omega) y
  show _=lN ((List.replicate g.nodes.length false).set 0 true) y
  rw[this]
  by_cases e:y=0
  ·subst e;rfl
  ·rw[if_neg (by omega)]
   show(fQ [(0,true)] y).getD false=_
   simp only[fQ,if_neg e,Option.getD_none,lN,List.getD,List.getElem?_replicate]
   split<;>rfl
 ·intro i
  simp only[sS,List.getD,List.getElem?_replicate];split<;>exact Nat.zero_le _
 rintro⟨s,k⟩ H n ⟨hn,⟨d0,r0⟩,⟨d6,r6⟩,⟨d8,E,r8,hE⟩,⟨d12,r12⟩,hI,hkl,hlen,hrun⟩
 dsimp only at r6 r12 hI hkl hlen hrun hE ⊢
 have hct:=hI.count
 by_cases hk:k<s.todo.length
 ·obtain⟨x0,x1,x2⟩:=hI.inr _ (cO (0:Int) hk)
  have hll:=hI.lg
  have hcnt:=hI.count
  have hlm:(s.cB.map fE).length=g.nodes.length:=by simp[hll]
  have e1:=fun d=>zx hk d
  have e2:=fun d=>kF (l:=s.cB) (i:=s.todo.getD k 0) (by rw[hll];exact x1) d
  have hlk:=hlen (s.todo.getD k 0).toNat
  rw[show g.nodes.length+1 - k=(g.nodes.length - k)+1 by omega,qQ hk] at hrun
  have hnx:=fun now s'=>hI.next hw hk (now:=now) (s':=s')
  unfold HS.l at hrun hnx
  generalize hx:s.todo.getD k 0=x at *
  have hf:=mN (g.nd x.toNat)
  unfold fE at hf
  generalize hl0:s.cB.getD x.toNat []=l at *
  have hfl:=uN (g.nd x.toNat)
  have hfh:=fun now=>H7 hw x1 (now:=now) (s:=s) hI.lg hI.oi
  by_cases h5:(g.nd x.toNat).kind=5
  ·have hnow:dM (g.nd x.toNat) l=some (l++[(g.nd x.toNat).cI]):=by unfold dM;rw[if_pos h5]
   have hnl:(l++[(g.nd x.toNat).cI]).length<=k+1:=by rw[List.length_append];exact Nat.succ_le_succ hlk
   rw[hnow] at hrun
   dsimp only at hrun
   repeat' (first|refine aQ ?_|exact eh|with_reducible refine aB ?_ ?_|((with_reducible refine Ask.mk ?_);first|exact dJ|(exact hlm)|(refine mC (m:=1) rfl ?_;simp only[List.length_map];omega)|exact cj|(intro h;simp_all[cG.cells,Node.cells]<;>fail)|(simp_all[cG.cells,Node.cells]<;>fail))|(apply aA;(·(first|exact gm x1 _|exact e1 _|exact e2 _|exact cL)))|refine aK (hf) ?_|(simp only[h5])|((refine au [] .any (ow (es:=l.map i64) (by rw[List.length_map];omega)) (fun i hi=>by rw[cx i64 _ _ _ (by simpa using hi)];trivial) (fun _ _=>M8 l) (by simp[c8,cH,cD]) ?_))|(apply aO (g:=none);(·exact fun _=>pQ _ _))|(apply aO (g:=none);(·exact fun _=>om _ _ _))|refine aH ?_|((with_reducible refine aE ?_ ?_)<;>intro hc<;>try(exfalso;omega)))
   clear hf
   simp only[List.length_map]
   refine aF (fun q:HS×Nat=>[(1, .pt 0 1 0 0),(4, .sl 6 g.nodes.length),(5, .mp 8),(6, .sl 12 q.1.todo.length),(7,i64 k),(10, .sl (n+26) (l++[(g.nd x.toNat).cI]).length),(78, .im 1 .any ((g.nd x.toNat).fold.map i64)),(79,i64 (g.nd x.toNat).fold.length),(80,i64 q.2)])
    (fun q H2 n2=>q.2<=(g.nd x.toNat).fold.length/\n+15<=n2/\(∃d,bt H2 0=some (.row 60 4 d [g.av]))/\(∃d,bt H2 6=some (.row 31 1 d (q.1.cB.map fE)))/\(∃d E,bt H2 8=some (.row 3 0 d (mapA (sj E)))/\uP E q.1)/\(∃d,bt H2 12=some (.row 3 1 d (q.1.todo.map i64)))/\nC (.sl (n+26) (l++[(g.nd x.toNat).cI]).length) (l++[(g.nd x.toNat).cI]) H2 n2/\q.1.cB.length=g.nodes.length/\q.1.found.length=g.nodes.length/\q.1.todo.length+q.1.found.count false=g.nodes.length/\(∀i,(q.1.cB.getD i []).length<=k+1)/\dQ (l++[(g.nd x.toNat).cI]) ((g.nd x.toNat).fold.drop q.2) q.1=dQ (l++[(g.nd x.toNat).cI]) (g.nd x.toNat).fold s)
    (fun q=>(g.nd x.toNat).fold.length - q.2) (s,0) cC ⟨Nat.zero_le _,cX,⟨_,bu⟩,⟨_,bu⟩,⟨_,E,bu,hE⟩,⟨_,bu⟩,⟨.inr ⟨n+26,_,rfl,cX,by rw[<-gM];exact bu⟩,fun b m h=>by cases h;omega⟩,hI.lg,hI.oi,hI.count,fun i=>Nat.le_succ_of_le (hlen i),rfl⟩ ?_
   clear r0 r6 r8 r12
   rintro⟨⟨lks,fnds,tds⟩,j⟩ H2 n2 ⟨hj,hn2,⟨d02,r0⟩,⟨d62,r6⟩,⟨d82,E2,r8,hE2⟩,⟨d122,r12⟩,hT,hll2,hfl2,hct2,hlen2,hto⟩
   dsimp only at hj hn2 r6 hE2 r12 hT hll2 hfl2 hct2 hlen2 hto ⊢
   by_cases hjl:j<(g.nd x.toNat).fold.length
   ·have hm:=kJ.1 (cO 0 hjl)
    obtain⟨k0,k1⟩:=(hw.2.2 x.toNat x1).2.2 _ hm
    have e3:=fun d=>jP (l:=(g.nd x.toNat).fold) hjl d
    rw[gC _ _ _ hjl] at hto
    generalize hy:(g.nd x.toNat).fold.getD j 0=y at *
    have hl2m:(lks.map fE).length=g.nodes.length:=by simp[hll2]
    have e4:=fun d=>kF (l:=lks) (i:=y) (by rw[hll2];exact k1) d
    have hE3:=hE2 y k0
    have hyc:((y.toNat:Nat):Int)=y:=by omega
    cases hfd:HS.f ⟨lks,fnds,tds⟩ y with
    |true=>
     rw[if_neg (by rw[hfd];decide)] at hto
     rw[hfd] at hE3
     repeat' (first|refine aQ ?_|exact eh|with_reducible refine aB ?_ ?_|((with_reducible refine Ask.mk ?_);first|exact dJ|(exact hl2m)|exact cj)|(apply aA;(·(first|exact e3 _|exact e4 _|exact cL)))|(simp only[hE3])|(apply aO (g:=none);(·exact fun _=>pQ _ _))|(apply aO (g:=none);(·exact fun _=>om _ _ _))|refine aH ?_|((with_reducible refine aE ?_ ?_)<;>intro hc<;>try(exfalso;omega)))
     refine aG (tK (l:=l++[(g.nd x.toNat).cI]) ?_ (lks.getD y.toNat []) (by omega) (by have:=hlen2 y.toNat;omega)) ?_
     ·exact(hT.cc cX (fun b h1 h2=>cE)).1
     rintro r1 H3 n3 ⟨hr,rfl,rfl⟩
     by_cases hq:lks.getD y.toNat []=(l++[(g.nd x.toNat).cI])
     ·have hq2:HS.l ⟨lks,fnds,tds⟩ y=(l++[(g.nd x.toNat).cI]):=hq
      rw[if_pos hq2] at hto
      have hr1:r1=bl true:=hr.trans (congrArg _ (decide_eq_true hq))
      subst hr1
      repeat' (first|refine aQ ?_|exact aC|with_reducible refine aB ?_ ?_|(apply aA;(·exact cL))|refine aH ?_|((with_reducible refine aE ?_ ?_)<;>intro hc<;>try(exfalso;omega)))
      exact⟨(⟨lks,fnds,tds⟩,j+1),by dsimp only;omega,cC,by dsimp only;omega,cX,⟨_,bu⟩,⟨_,bu⟩,⟨_,E2,bu,hE2⟩,⟨_,bu⟩,hT.cc cX (fun b h1 h2=>cE),hll2,hfl2,hct2,hlen2,hto⟩
     ·have hq2:¬HS.l ⟨lks,fnds,tds⟩ y=(l++[(g.nd x.toNat).cI]):=hq
      rw[if_neg hq2] at hto
      have hr1:r1=bl false:=hr.trans (congrArg _ (decide_eq_false hq))
      subst hr1
      repeat' (first|refine aQ ?_|exact aC|with_reducible refine aB ?_ ?_|(apply aA;(·exact cL))|refine aH ?_|((with_reducible refine aE ?_ ?_)<;>intro hc<;>try(exfalso;omega)))
      exact⟨.inl ⟨y,rfl,by rw[<-hrun,hfh,<-hto]⟩⟩
    |false=>
     rw[if_pos hfd] at hto
     rw[hfd] at hE3
     have hcts:=count_set (l:=fnds) (i:=y.toNat) (by rw[hfl2];exact k1) hfd
     repeat' (first|refine aQ ?_|exact eh|with_reducible refine aB ?_ ?_|((with_reducible refine Ask.mk ?_);first|exact dJ|(exact hl2m)|exact cj)|(apply aA;(·(first|exact e3 _|exact e4 _|exact cL)))|(simp only[hE3])|(apply aO (g:=none);(·exact fun _=>pQ _ _))|(apply aO (g:=none);(·exact fun _=>om _ _ _))|refine aH ?_|((with_reducible refine aE ?_ ?_)<;>intro hc<;>try(exfalso;omega)))
     refine aG (ma (l:=l++[(g.nd x.toNat).cI]) ?_ (by omega)) ?_
     ·exact(hT.cc cX (fun b h1 h2=>cE)).1
     rintro _ H3 n3 ⟨rfl,hn3,hkp⟩
     have hb:∀{p:Prop},p->p:=fun h=>h
     have r03:bt H3 0=some (.row 60 4 d02 [g.av]):=(hkp 0 cX).trans bu
     have r63:bt H3 6=some (.row 31 1 d62 (lks.map fE)):=(hkp 6 cX).trans bu
     have r83:bt H3 8=some (.row 3 0 d82 (mapA (sj (fS E2 y true)))):=(hkp 8 cX).trans bu
     have r123:bt H3 12=some (.row 3 1 d122 (tds.map i64)):=(hkp 12 cX).trans bu
     have hn23:n2<n3:=Nat.lt_of_lt_of_le cX hn3
     have hT3:nC (.sl (n+26) (l++[(g.nd x.toNat).cI]).length) (l++[(g.nd x.toNat).cI]) H3 n3:=hT.cc (Nat.le_of_lt hn23) (fun b h1 h2=>(hkp b (Nat.lt_of_lt_of_le h2 cX)).trans cE)
     clear hkp hT
     repeat' (first|refine aQ ?_|exact eh|with_reducible refine aB ?_ ?_|((with_reducible refine Ask.mk ?_);first|exact dJ|(exact hl2m)|exact cj)|(apply aA;(·(first|exact e3 _|exact e4 _|exact cL)))|refine aH ?_|((with_reducible refine aE ?_ ?_)<;>intro hc<;>try(exfalso;omega)))
     refine⟨(⟨lks.set y.toNat (l++[(g.nd x.toNat).cI]),fnds.set y.toNat true,tds++[y]⟩,j+1),by dsimp only;omega,cC,by dsimp only;omega,cX,⟨_,bu⟩,⟨_,by dsimp only;rw[<-kX];exact bu⟩,⟨_,fS E2 y true,bu, ?_⟩,⟨_,by dsimp only;rw[<-gM];exact bu⟩,hT3.cc cX (fun b h1 h2=>cE),by simp[hll2],by simp[hfl2], ?_, ?_,hto⟩
     ·intro z hz
      rw[nY,HS.wX (s:=⟨lks,fnds,tds⟩) (by rw[hfl2];exact k1)]
      by_cases hzy:z=y
      ·rw[if_pos hzy,if_pos (by rw[hzy])];rfl
      ·rw[if_neg hzy,if_neg (by omega)];exact hE2 z hz
     ·simp only[List.length_append,List.length_cons,List.length_nil];omega
     ·intro i
      rw[eS]
      split
      ·exact hnl
      ·exact hlen2 i
   ·have:j=(g.nd x.toNat).fold.length:=by omega
    subst this
    rw[List.drop_eq_nil_of_le (Nat.le_refl _),dQ] at hto
    have hnx2:=hnx _ _ hnow (by rw[hfh];exact hto.symm)
    repeat' (first|refine aQ ?_|exact aC|with_reducible refine aB ?_ ?_|(apply aA;(·exact cL))|refine aH ?_|((with_reducible refine aE ?_ ?_)<;>intro hc<;>try(exfalso;omega)))
    refine⟨(⟨lks,fnds,tds⟩,k+1),by dsimp only;omega,cC,⟨_,_,Wk.refl _ _ _,cX,⟨_,bu⟩,⟨_,bu⟩,⟨_,E2,bu,hE2⟩,⟨_,bu⟩,hnx2,by dsimp only;omega,hlen2, ?_⟩⟩
    rw[<-hrun,hfh,<-hto]
    dsimp only
    congr 1
    omega
  ·by_cases h6:(g.nd x.toNat).kind=6
   ·rcases List.eq_nil_or_concat l with rfl|⟨a,y,rfl⟩
    ·have hnow:dM (g.nd x.toNat) []=none:=by unfold dM;rw[if_neg h5,if_pos h6,if_neg (fun h=>h.1 rfl)]
     rw[hnow] at hrun
     dsimp only at hrun
     repeat' (first|refine aQ ?_|exact eh|with_reducible refine aB ?_ ?_|((with_reducible refine Ask.mk ?_);first|exact dJ|(exact hlm)|exact cj|(intro h;simp_all[cG.cells,Node.cells]<;>fail)|(simp_all[cG.cells,Node.cells]<;>fail))|(apply aA;(·(first|exact gm x1 _|exact e1 _|exact e2 _|exact cL)))|refine aK (hf) ?_|(simp only[h6])|(apply aO (g:=none);(·exact fun _=>pQ _ _))|(apply aO (g:=none);(·exact fun _=>om _ _ _))|refine aH ?_|((with_reducible refine aE ?_ ?_)<;>intro hc<;>try(exfalso;omega)))
     exact⟨.inl ⟨x,rfl,hrun.symm⟩⟩
    ·rw[List.concat_eq_append] at *
     have hla:(a++[y]).length=a.length+1:=by simp
     have hml:((a++[y]).map i64).length=a.length+1:=by simp
     have e5:∀d,((a++[y]).map i64).getD (((((a++[y]).map i64).length:Nat):Int) - 1).toNat d=i64 y:=fun d=>by
      rw[hml,show(((a.length+1:Nat):Int) - 1).toNat=a.length by omega,List.map_append]
      simp[List.getD]
     by_cases hy6:y=(g.nd x.toNat).cI
     ·subst hy6
      have hnow:dM (g.nd x.toNat) (a++[(g.nd x.toNat).cI])=some a:=by unfold dM;rw[if_neg h5,if_pos h6,if_pos ⟨by simp,by simp⟩,List.dropLast_concat]
      have hnl:a.length<=k+1:=by omega
      have htk:(((a++[(g.nd x.toNat).cI]).map i64).drop 0).take a.length=a.map i64:=by simp
      rw[hnow] at hrun
      dsimp only at hrun
      repeat' (first|refine aQ ?_|exact eh|with_reducible refine aB ?_ ?_|((with_reducible refine Ask.mk ?_);first|exact dJ|(exact hlm)|exact cj|(intro h;simp_all[cG.cells,Node.cells]<;>fail)|(simp_all[cG.cells,Node.cells]<;>fail))|(apply aA;(·(first|exact gm x1 _|exact e1 _|exact e2 _|exact e5 _|exact cL)))|refine aK (hf) ?_|(simp only[h6])|(simp only[htk])|(apply aO (g:=none);(·exact fun _=>pQ _ _))|(apply aO (g:=none);(·exact fun _=>om _ _ _))|refine aH ?_|((with_reducible refine aE ?_ ?_)<;>intro hc<;>try(exfalso;omega)))
      ·exact absurd hc (by simp;omega)
      clear hf
      try simp only[List.length_map]
      refine aF (fun q:HS×Nat=>[(1, .pt 0 1 0 0),(4, .sl 6 g.nodes.length),(5, .mp 8),(6, .sl 12 q.1.todo.length),(7,i64 k),(10, .im 1 .any (a.map i64)),(78, .im 1 .any ((g.nd x.toNat).fold.map i64)),(79,i64 (g.nd x.toNat).fold.length),(80,i64 q.2)])
       (fun q H2 n2=>q.2<=(g.nd x.toNat).fold.length/\n+15<=n2/\(∃d,bt H2 0=some (.row 60 4 d [g.av]))/\(∃d,bt H2 6=some (.row 31 1 d (q.1.cB.map fE)))/\(∃d E,bt H2 8=some (.row 3 0 d (mapA (sj E)))/\uP E q.1)/\(∃d,bt H2 12=some (.row 3 1 d (q.1.todo.map i64)))/\nC (.im 1 .any (a.map i64)) (a) H2 n2/\q.1.cB.length=g.nodes.length/\q.1.found.length=g.nodes.length/\q.1.todo.length+q.1.found.count false=g.nodes.length/\(∀i,(q.1.cB.getD i []).length<=k+1)/\dQ (a) ((g.nd x.toNat).fold.drop q.2) q.1=dQ (a) (g.nd x.toNat).fold s)
       (fun q=>(g.nd x.toNat).fold.length - q.2) (s,0) cC ⟨Nat.zero_le _,cX,⟨_,bu⟩,⟨_,bu⟩,⟨_,E,bu,hE⟩,⟨_,bu⟩,⟨.inl rfl,fun b m h=>by cases h⟩,hI.lg,hI.oi,hI.count,fun i=>Nat.le_succ_of_le (hlen i),rfl⟩ ?_
      clear r0 r6 r8 r12
      rintro⟨⟨lks,fnds,tds⟩,j⟩ H2 n2 ⟨hj,hn2,⟨d02,r0⟩,⟨d62,r6⟩,⟨d82,E2,r8,hE2⟩,⟨d122,r12⟩,hT,hll2,hfl2,hct2,hlen2,hto⟩
      dsimp only at hj hn2 r6 hE2 r12 hT hll2 hfl2 hct2 hlen2 hto ⊢
      by_cases hjl:j<(g.nd x.toNat).fold.length
      ·have hm:=kJ.1 (cO 0 hjl)
       obtain⟨k0,k1⟩:=(hw.2.2 x.toNat x1).2.2 _ hm
       have e3:=fun d=>jP (l:=(g.nd x.toNat).fold) hjl d
       rw[gC _ _ _ hjl] at hto
       generalize hy:(g.nd x.toNat).fold.getD j 0=y at *
       have hl2m:(lks.map fE).length=g.nodes.length:=by simp[hll2]
       have e4:=fun d=>kF (l:=lks) (i:=y) (by rw[hll2];exact k1) d
       have hE3:=hE2 y k0
       have hyc:((y.toNat:Nat):Int)=y:=by omega
       cases hfd:HS.f ⟨lks,fnds,tds⟩ y with
       |true=>
        rw[if_neg (by rw[hfd];decide)] at hto
        rw[hfd] at hE3
        repeat' (first|refine aQ ?_|exact eh|with_reducible refine aB ?_ ?_|((with_reducible refine Ask.mk ?_);first|exact dJ|(exact hl2m)|exact cj)|(apply aA;(·(first|exact e3 _|exact e4 _|exact cL)))|(simp only[hE3])|(apply aO (g:=none);(·exact fun _=>pQ _ _))|(apply aO (g:=none);(·exact fun _=>om _ _ _))|refine aH ?_|((with_reducible refine aE ?_ ?_)<;>intro hc<;>try(exfalso;omega)))
        refine aG (tK (l:=a) ?_ (lks.getD y.toNat []) (by omega) (by have:=hlen2 y.toNat;omega)) ?_
        ·exact(hT.cc cX (fun b h1 h2=>cE)).1
        rintro r1 H3 n3 ⟨hr,rfl,rfl⟩
        by_cases hq:lks.getD y.toNat []=(a)
        ·have hq2:HS.l ⟨lks,fnds,tds⟩ y=(a):=hq
         rw[if_pos hq2] at hto
         have hr1:r1=bl true:=hr.trans (congrArg _ (decide_eq_true hq))
         subst hr1
         repeat' (first|refine aQ ?_|exact aC|with_reducible refine aB ?_ ?_|(apply aA;(·exact cL))|refine aH ?_|((with_reducible refine aE ?_ ?_)<;>intro hc<;>try(exfalso;omega)))
         exact⟨(⟨lks,fnds,tds⟩,j+1),by dsimp only;omega,cC,by dsimp only;omega,cX,⟨_,bu⟩,⟨_,bu⟩,⟨_,E2,bu,hE2⟩,⟨_,bu⟩,hT.cc cX (fun b h1 h2=>cE),hll2,hfl2,hct2,hlen2,hto⟩
        ·have hq2:¬HS.l ⟨lks,fnds,tds⟩ y=(a):=hq
         rw[if_neg hq2] at hto
         have hr1:r1=bl false:=hr.trans (congrArg _ (decide_eq_false hq))
         subst hr1
         repeat' (first|refine aQ ?_|exact aC|with_reducible refine aB ?_ ?_|(apply aA;(·exact cL))|refine aH ?_|((with_reducible refine aE ?_ ?_)<;>intro hc<;>try(exfalso;omega)))
         exact⟨.inl ⟨y,rfl,by rw[<-hrun,hfh,<-hto]⟩⟩
       |false=>
        rw[if_pos hfd] at hto
        rw[hfd] at hE3
        have hcts:=count_set (l:=fnds) (i:=y.toNat) (by rw[hfl2];exact k1) hfd
        repeat' (first|refine aQ ?_|exact eh|with_reducible refine aB ?_ ?_|((with_reducible refine Ask.mk ?_);first|exact dJ|(exact hl2m)|exact cj)|(apply aA;(·(first|exact e3 _|exact e4 _|exact cL)))|(simp only[hE3])|(apply aO (g:=none);(·exact fun _=>pQ _ _))|(apply aO (g:=none);(·exact fun _=>om _ _ _))|refine aH ?_|((with_reducible refine aE ?_ ?_)<;>intro hc<;>try(exfalso;omega)))
        refine aG (ma (l:=a) ?_ (by omega)) ?_
        ·exact(hT.cc cX (fun b h1 h2=>cE)).1
        rintro _ H3 n3 ⟨rfl,hn3,hkp⟩
        have hb:∀{p:Prop},p->p:=fun h=>h
        have r03:bt H3 0=some (.row 60 4 d02 [g.av]):=(hkp 0 cX).trans bu
        have r63:bt H3 6=some (.row 31 1 d62 (lks.map fE)):=(hkp 6 cX).trans bu
        have r83:bt H3 8=some (.row 3 0 d82 (mapA (sj (fS E2 y true)))):=(hkp 8 cX).trans bu
        have r123:bt H3 12=some (.row 3 1 d122 (tds.map i64)):=(hkp 12 cX).trans bu
        have hn23:n2<n3:=Nat.lt_of_lt_of_le cX hn3
        have hT3:nC (.im 1 .any (a.map i64)) (a) H3 n3:=hT.cc (Nat.le_of_lt hn23) (fun b h1 h2=>(hkp b (Nat.lt_of_lt_of_le h2 cX)).trans cE)
        clear hkp hT
        repeat' (first|refine aQ ?_|exact eh|with_reducible refine aB ?_ ?_|((with_reducible refine Ask.mk ?_);first|exact dJ|(exact hl2m)|exact cj)|(apply aA;(·(first|exact e3 _|exact e4 _|exact cL)))|refine aH ?_|((with_reducible refine aE ?_ ?_)<;>intro hc<;>try(exfalso;omega)))
        refine⟨(⟨lks.set y.toNat (a),fnds.set y.toNat true,tds++[y]⟩,j+1),by dsimp only;omega,cC,by dsimp only;omega,cX,⟨_,bu⟩,⟨_,by dsimp only;rw[<-kX];exact bu⟩,⟨_,fS E2 y true,bu, ?_⟩,⟨_,by dsimp only;rw[<-gM];exact bu⟩,hT3.cc cX (fun b h1 h2=>cE),by simp[hll2],by simp[hfl2], ?_, ?_,hto⟩
        ·intro z hz
         rw[nY,HS.wX (s:=⟨lks,fnds,tds⟩) (by rw[hfl2];exact k1)]
         by_cases hzy:z=y
         ·rw[if_pos hzy,if_pos (by rw[hzy])];rfl
         ·rw[if_neg hzy,if_neg (by omega)];exact hE2 z hz
        ·simp only[List.length_append,List.length_cons,List.length_nil];omega
        ·intro i
         rw[eS]
         split
         ·exact hnl
         ·exact hlen2 i
      ·have:j=(g.nd x.toNat).fold.length:=by omega
       subst this
       rw[List.drop_eq_nil_of_le (Nat.le_refl _),dQ] at hto
       have hnx2:=hnx _ _ hnow (by rw[hfh];exact hto.symm)
       repeat' (first|refine aQ ?_|exact aC|with_reducible refine aB ?_ ?_|(apply aA;(·exact cL))|refine aH ?_|((with_reducible refine aE ?_ ?_)<;>intro hc<;>try(exfalso;omega)))
       refine⟨(⟨lks,fnds,tds⟩,k+1),by dsimp only;omega,cC,⟨_,_,Wk.refl _ _ _,cX,⟨_,bu⟩,⟨_,bu⟩,⟨_,E2,bu,hE2⟩,⟨_,bu⟩,hnx2,by dsimp only;omega,hlen2, ?_⟩⟩
       rw[<-hrun,hfh,<-hto]
       dsimp only
       congr 1
       omega
     ·have hnow:dM (g.nd x.toNat) (a++[y])=none:=by unfold dM;rw[if_neg h5,if_pos h6,if_neg (fun h=>hy6 (by simpa using h.2))]
      rw[hnow] at hrun
      dsimp only at hrun
      repeat' (first|refine aQ ?_|exact eh|with_reducible refine aB ?_ ?_|((with_reducible refine Ask.mk ?_);first|exact dJ|(exact hlm)|exact cj|(intro h;simp_all[cG.cells,Node.cells]<;>fail)|(simp_all[cG.cells,Node.cells]<;>fail))|(apply aA;(·(first|exact gm x1 _|exact e1 _|exact e2 _|exact e5 _|exact cL)))|refine aK (hf) ?_|(simp only[h6])|(apply aO (g:=none);(·exact fun _=>pQ _ _))|(apply aO (g:=none);(·exact fun _=>om _ _ _))|refine aH ?_|((with_reducible refine aE ?_ ?_)<;>intro hc<;>try(exfalso;omega)))
      all_goals first|exact absurd hc.2 hy6|exact⟨.inl ⟨x,rfl,hrun.symm⟩⟩
   ·by_cases h9:(g.nd x.toNat).kind=9/\l≠[]
    ·have hnow:dM (g.nd x.toNat) l=none:=by unfold dM;rw[if_neg h5,if_neg h6,if_pos h9.1,if_neg h9.2]
     have hlp:0<l.length:=List.length_pos_iff.2 h9.2
     have h91:=h9.1
     rw[hnow] at hrun
     dsimp only at hrun
     repeat' (first|refine aQ ?_|exact eh|with_reducible refine aB ?_ ?_|((with_reducible refine Ask.mk ?_);first|exact dJ|(exact hlm)|exact cj|(intro h;simp_all[cG.cells,Node.cells]<;>fail)|(simp_all[cG.cells,Node.cells]<;>fail))|(apply aA;(·(first|exact gm x1 _|exact e1 _|exact e2 _|exact cL)))|refine aK (hf) ?_|(simp only[h91])|(apply aO (g:=none);(·exact fun _=>pQ _ _))|(apply aO (g:=none);(·exact fun _=>om _ _ _))|refine aH ?_|((with_reducible refine aE ?_ ?_)<;>intro hc<;>try(exfalso;omega)))
     exact⟨.inl ⟨x,rfl,hrun.symm⟩⟩
    ·by_cases h91:(g.nd x.toNat).kind=9
     ·have hl0:l=[]:=Classical.byContradiction fun h=>h9 ⟨h91,h⟩
      subst hl0
      have hnow:dM (g.nd x.toNat) []=some []:=by unfold dM;rw[if_neg h5,if_neg h6,if_pos h91,if_pos rfl]
      have hnl:([]:List Int).length<=k+1:=Nat.zero_le _
      rw[hnow] at hrun
      dsimp only at hrun
      repeat' (first|refine aQ ?_|exact eh|with_reducible refine aB ?_ ?_|((with_reducible refine Ask.mk ?_);first|exact dJ|(exact hlm)|exact cj|(intro h;simp_all[cG.cells,Node.cells]<;>fail)|(simp_all[cG.cells,Node.cells]<;>fail))|(apply aA;(·(first|exact gm x1 _|exact e1 _|exact e2 _|exact cL)))|refine aK (hf) ?_|(simp only[h91])|(apply aO (g:=none);(·exact fun _=>pQ _ _))|(apply aO (g:=none);(·exact fun _=>om _ _ _))|refine aH ?_|((with_reducible refine aE ?_ ?_)<;>intro hc<;>try(exfalso;omega)))
      clear hf
      try simp only[List.length_map]
      refine aF (fun q:HS×Nat=>[(1, .pt 0 1 0 0),(4, .sl 6 g.nodes.length),(5, .mp 8),(6, .sl 12 q.1.todo.length),(7,i64 k),(10, .im 1 .any (([]:List Int).map i64)),(78, .im 1 .any ((g.nd x.toNat).fold.map i64)),(79,i64 (g.nd x.toNat).fold.length),(80,i64 q.2)])
       (fun q H2 n2=>q.2<=(g.nd x.toNat).fold.length/\n+15<=n2/\(∃d,bt H2 0=some (.row 60 4 d [g.av]))/\(∃d,bt H2 6=some (.row 31 1 d (q.1.cB.map fE)))/\(∃d E,bt H2 8=some (.row 3 0 d (mapA (sj E)))/\uP E q.1)/\(∃d,bt H2 12=some (.row 3 1 d (q.1.todo.map i64)))/\nC (.im 1 .any (([]:List Int).map i64)) ([]) H2 n2/\q.1.cB.length=g.nodes.length/\q.1.found.length=g.nodes.length/\q.1.todo.length+q.1.found.count false=g.nodes.length/\(∀i,(q.1.cB.getD i []).length<=k+1)/\dQ ([]) ((g.nd x.toNat).fold.drop q.2) q.1=dQ ([]) (g.nd x.toNat).fold s)
       (fun q=>(g.nd x.toNat).fold.length - q.2) (s,0) cC ⟨Nat.zero_le _,cX,⟨_,bu⟩,⟨_,bu⟩,⟨_,E,bu,hE⟩,⟨_,bu⟩,⟨.inl rfl,fun b m h=>by cases h⟩,hI.lg,hI.oi,hI.count,fun i=>Nat.le_succ_of_le (hlen i),rfl⟩ ?_
      clear r0 r6 r8 r12
      rintro⟨⟨lks,fnds,tds⟩,j⟩ H2 n2 ⟨hj,hn2,⟨d02,r0⟩,⟨d62,r6⟩,⟨d82,E2,r8,hE2⟩,⟨d122,r12⟩,hT,hll2,hfl2,hct2,hlen2,hto⟩
      dsimp only at hj hn2 r6 hE2 r12 hT hll2 hfl2 hct2 hlen2 hto ⊢
      by_cases hjl:j<(g.nd x.toNat).fold.length
      ·have hm:=kJ.1 (cO 0 hjl)
       obtain⟨k0,k1⟩:=(hw.2.2 x.toNat x1).2.2 _ hm
       have e3:=fun d=>jP (l:=(g.nd x.toNat).fold) hjl d
       rw[gC _ _ _ hjl] at hto
       generalize hy:(g.nd x.toNat).fold.getD j 0=y at *
       have hl2m:(lks.map fE).length=g.nodes.length:=by simp[hll2]
       have e4:=fun d=>kF (l:=lks) (i:=y) (by rw[hll2];exact k1) d
       have hE3:=hE2 y k0
       have hyc:((y.toNat:Nat):Int)=y:=by omega
       cases hfd:HS.f ⟨lks,fnds,tds⟩ y with
       |true=>
        rw[if_neg (by rw[hfd];decide)] at hto
        rw[hfd] at hE3
        repeat' (first|refine aQ ?_|exact eh|with_reducible refine aB ?_ ?_|((with_reducible refine Ask.mk ?_);first|exact dJ|(exact hl2m)|exact cj)|(apply aA;(·(first|exact e3 _|exact e4 _|exact cL)))|(simp only[hE3])|(apply aO (g:=none);(·exact fun _=>pQ _ _))|(apply aO (g:=none);(·exact fun _=>om _ _ _))|refine aH ?_|((with_reducible refine aE ?_ ?_)<;>intro hc<;>try(exfalso;omega)))
        refine aG (tK (l:=[]) ?_ (lks.getD y.toNat []) (by omega) (by have:=hlen2 y.toNat;omega)) ?_
        ·exact(hT.cc cX (fun b h1 h2=>cE)).1
        rintro r1 H3 n3 ⟨hr,rfl,rfl⟩
        by_cases hq:lks.getD y.toNat []=([])
        ·have hq2:HS.l ⟨lks,fnds,tds⟩ y=([]):=hq
         rw[if_pos hq2] at hto
         have hr1:r1=bl true:=hr.trans (congrArg _ (decide_eq_true hq))
         subst hr1
         repeat' (first|refine aQ ?_|exact aC|with_reducible refine aB ?_ ?_|(apply aA;(·exact cL))|refine aH ?_|((with_reducible refine aE ?_ ?_)<;>intro hc<;>try(exfalso;omega)))
         exact⟨(⟨lks,fnds,tds⟩,j+1),by dsimp only;omega,cC,by dsimp only;omega,cX,⟨_,bu⟩,⟨_,bu⟩,⟨_,E2,bu,hE2⟩,⟨_,bu⟩,hT.cc cX (fun b h1 h2=>cE),hll2,hfl2,hct2,hlen2,hto⟩
        ·have hq2:¬HS.l ⟨lks,fnds,tds⟩ y=([]):=hq
         rw[if_neg hq2] at hto
         have hr1:r1=bl false:=hr.trans (congrArg _ (decide_eq_false hq))
         subst hr1
         repeat' (first|refine aQ ?_|exact aC|with_reducible refine aB ?_ ?_|(apply aA;(·exact cL))|refine aH ?_|((with_reducible refine aE ?_ ?_)<;>intro hc<;>try(exfalso;omega)))
         exact⟨.inl ⟨y,rfl,by rw[<-hrun,hfh,<-hto]⟩⟩
       |false=>
        rw[if_pos hfd] at hto
        rw[hfd] at hE3
        have hcts:=count_set (l:=fnds) (i:=y.toNat) (by rw[hfl2];exact k1) hfd
        repeat' (first|refine aQ ?_|exact eh|with_reducible refine aB ?_ ?_|((with_reducible refine Ask.mk ?_);first|exact dJ|(exact hl2m)|exact cj)|(apply aA;(·(first|exact e3 _|exact e4 _|exact cL)))|(simp only[hE3])|(apply aO (g:=none);(·exact fun _=>pQ _ _))|(apply aO (g:=none);(·exact fun _=>om _ _ _))|refine aH ?_|((with_reducible refine aE ?_ ?_)<;>intro hc<;>try(exfalso;omega)))
        refine aG (ma (l:=[]) ?_ (by omega)) ?_
        ·exact(hT.cc cX (fun b h1 h2=>cE)).1
        rintro _ H3 n3 ⟨rfl,hn3,hkp⟩
        have hb:∀{p:Prop},p->p:=fun h=>h
        have r03:bt H3 0=some (.row 60 4 d02 [g.av]):=(hkp 0 cX).trans bu
        have r63:bt H3 6=some (.row 31 1 d62 (lks.map fE)):=(hkp 6 cX).trans bu
        have r83:bt H3 8=some (.row 3 0 d82 (mapA (sj (fS E2 y true)))):=(hkp 8 cX).trans bu
        have r123:bt H3 12=some (.row 3 1 d122 (tds.map i64)):=(hkp 12 cX).trans bu
        have hn23:n2<n3:=Nat.lt_of_lt_of_le cX hn3
        have hT3:nC (.im 1 .any (([]:List Int).map i64)) ([]) H3 n3:=hT.cc (Nat.le_of_lt hn23) (fun b h1 h2=>(hkp b (Nat.lt_of_lt_of_le h2 cX)).trans cE)
        clear hkp hT
        repeat' (first|refine aQ ?_|exact eh|with_reducible refine aB ?_ ?_|((with_reducible refine Ask.mk ?_);first|exact dJ|(exact hl2m)|exact cj)|(apply aA;(·(first|exact e3 _|exact e4 _|exact cL)))|refine aH ?_|((with_reducible refine aE ?_ ?_)<;>intro hc<;>try(exfalso;omega)))
        refine⟨(⟨lks.set y.toNat ([]),fnds.set y.toNat true,tds++[y]⟩,j+1),by dsimp only;omega,cC,by dsimp only;omega,cX,⟨_,bu⟩,⟨_,by dsimp only;rw[<-kX];exact bu⟩,⟨_,fS E2 y true,bu, ?_⟩,⟨_,by dsimp only;rw[<-gM];exact bu⟩,hT3.cc cX (fun b h1 h2=>cE),by simp[hll2],by simp[hfl2], ?_, ?_,hto⟩
        ·intro z hz
         rw[nY,HS.wX (s:=⟨lks,fnds,tds⟩) (by rw[hfl2];exact k1)]
         by_cases hzy:z=y
         ·rw[if_pos hzy,if_pos (by rw[hzy])];rfl
         ·rw[if_neg hzy,if_neg (by omega)];exact hE2 z hz
        ·simp only[List.length_append,List.length_cons,List.length_nil];omega
        ·intro i
         rw[eS]
         split
         ·exact hnl
         ·exact hlen2 i
      ·have:j=(g.nd x.toNat).fold.length:=by omega
       subst this
       rw[List.drop_eq_nil_of_le (Nat.le_refl _),dQ] at hto
       have hnx2:=hnx _ _ hnow (by rw[hfh];exact hto.symm)
       repeat' (first|refine aQ ?_|exact aC|with_reducible refine aB ?_ ?_|(apply aA;(·exact cL))|refine aH ?_|((with_reducible refine aE ?_ ?_)<;>intro hc<;>try(exfalso;omega)))
       refine⟨(⟨lks,fnds,tds⟩,k+1),by dsimp only;omega,cC,⟨_,_,Wk.refl _ _ _,cX,⟨_,bu⟩,⟨_,bu⟩,⟨_,E2,bu,hE2⟩,⟨_,bu⟩,hnx2,by dsimp only;omega,hlen2, ?_⟩⟩
       rw[<-hrun,hfh,<-hto]
       dsimp only
       congr 1
       omega
     ·have hnow:dM (g.nd x.toNat) l=some l:=by unfold dM;rw[if_neg h5,if_neg h6,if_neg h91]
      have hnl:l.length<=k+1:=by omega
      rw[hnow] at hrun
      dsimp only at hrun
      repeat' (first|refine aQ ?_|exact eh|with_reducible refine aB ?_ ?_|((with_reducible refine Ask.mk ?_);first|exact dJ|(exact hlm)|exact cj|(intro h;simp_all[cG.cells,Node.cells]<;>fail)|(simp_all[cG.cells,Node.cells]<;>fail))|(apply aA;(·(first|exact gm x1 _|exact e1 _|exact e2 _|exact cL)))|refine aK (hf) ?_|(simp only[h5])|(simp only[h6])|(simp only[h91])|(apply aO (g:=none);(·exact fun _=>pQ _ _))|(apply aO (g:=none);(·exact fun _=>om _ _ _))|refine aH ?_|((with_reducible refine aE ?_ ?_)<;>intro hc<;>try(exfalso;omega)))
      clear hf
      try simp only[List.length_map]
      refine aF (fun q:HS×Nat=>[(1, .pt 0 1 0 0),(4, .sl 6 g.nodes.length),(5, .mp 8),(6, .sl 12 q.1.todo.length),(7,i64 k),(10, .im 1 .any (l.map i64)),(78, .im 1 .any ((g.nd x.toNat).fold.map i64)),(79,i64 (g.nd x.toNat).fold.length),(80,i64 q.2)])
       (fun q H2 n2=>q.2<=(g.nd x.toNat).fold.length/\n+15<=n2/\(∃d,bt H2 0=some (.row 60 4 d [g.av]))/\(∃d,bt H2 6=some (.row 31 1 d (q.1.cB.map fE)))/\(∃d E,bt H2 8=some (.row 3 0 d (mapA (sj E)))/\uP E q.1)/\(∃d,bt H2 12=some (.row 3 1 d (q.1.todo.map i64)))/\nC (.im 1 .any (l.map i64)) (l) H2 n2/\q.1.cB.length=g.nodes.length/\q.1.found.length=g.nodes.length/\q.1.todo.length+q.1.found.count false=g.nodes.length/\(∀i,(q.1.cB.getD i []).length<=k+1)/\dQ (l) ((g.nd x.toNat).fold.drop q.2) q.1=dQ (l) (g.nd x.toNat).fold s)
       (fun q=>(g.nd x.toNat).fold.length - q.2) (s,0) cC ⟨Nat.zero_le _,cX,⟨_,bu⟩,⟨_,bu⟩,⟨_,E,bu,hE⟩,⟨_,bu⟩,⟨.inl rfl,fun b m h=>by cases h⟩,hI.lg,hI.oi,hI.count,fun i=>Nat.le_succ_of_le (hlen i),rfl⟩ ?_
      clear r0 r6 r8 r12
      rintro⟨⟨lks,fnds,tds⟩,j⟩ H2 n2 ⟨hj,hn2,⟨d02,r0⟩,⟨d62,r6⟩,⟨d82,E2,r8,hE2⟩,⟨d122,r12⟩,hT,hll2,hfl2,hct2,hlen2,hto⟩
      dsimp only at hj hn2 r6 hE2 r12 hT hll2 hfl2 hct2 hlen2 hto ⊢
      by_cases hjl:j<(g.nd x.toNat).fold.length
      ·have hm:=kJ.1 (cO 0 hjl)
       obtain⟨k0,k1⟩:=(hw.2.2 x.toNat x1).2.2 _ hm
       have e3:=fun d=>jP (l:=(g.nd x.toNat).fold) hjl d
       rw[gC _ _ _ hjl] at hto
       generalize hy:(g.nd x.toNat).fold.getD j 0=y at *
       have hl2m:(lks.map fE).length=g.nodes.length:=by simp[hll2]
       have e4:=fun d=>kF (l:=lks) (i:=y) (by rw[hll2];exact k1) d
       have hE3:=hE2 y k0
       have hyc:((y.toNat:Nat):Int)=y:=by omega
       cases hfd:HS.f ⟨lks,fnds,tds⟩ y with
       |true=>
        rw[if_neg (by rw[hfd];decide)] at hto
        rw[hfd] at hE3
        repeat' (first|refine aQ ?_|exact eh|with_reducible refine aB ?_ ?_|((with_reducible refine Ask.mk ?_);first|exact dJ|(exact hl2m)|exact cj)|(apply aA;(·(first|exact e3 _|exact e4 _|exact cL)))|(simp only[hE3])|(apply aO (g:=none);(·exact fun _=>pQ _ _))|(apply aO (g:=none);(·exact fun _=>om _ _ _))|refine aH ?_|((with_reducible refine aE ?_ ?_)<;>intro hc<;>try(exfalso;omega)))
        refine aG (tK (l:=l) ?_ (lks.getD y.toNat []) (by omega) (by have:=hlen2 y.toNat;omega)) ?_
        ·exact(hT.cc cX (fun b h1 h2=>cE)).1
        rintro r1 H3 n3 ⟨hr,rfl,rfl⟩
        by_cases hq:lks.getD y.toNat []=(l)
        ·have hq2:HS.l ⟨lks,fnds,tds⟩ y=(l):=hq
         rw[if_pos hq2] at hto
         have hr1:r1=bl true:=hr.trans (congrArg _ (decide_eq_true hq))
         subst hr1
         repeat' (first|refine aQ ?_|exact aC|with_reducible refine aB ?_ ?_|(apply aA;(·exact cL))|refine aH ?_|((with_reducible refine aE ?_ ?_)<;>intro hc<;>try(exfalso;omega)))
         exact⟨(⟨lks,fnds,tds⟩,j+1),by dsimp only;omega,cC,by dsimp only;omega,cX,⟨_,bu⟩,⟨_,bu⟩,⟨_,E2,bu,hE2⟩,⟨_,bu⟩,hT.cc cX (fun b h1 h2=>cE),hll2,hfl2,hct2,hlen2,hto⟩
        ·have hq2:¬HS.l ⟨lks,fnds,tds⟩ y=(l):=hq
         rw[if_neg hq2] at hto
         have hr1:r1=bl false:=hr.trans (congrArg _ (decide_eq_false hq))
         subst hr1
         repeat' (first|refine aQ ?_|exact aC|with_reducible refine aB ?_ ?_|(apply aA;(·exact cL))|refine aH ?_|((with_reducible refine aE ?_ ?_)<;>intro hc<;>try(exfalso;omega)))
         exact⟨.inl ⟨y,rfl,by rw[<-hrun,hfh,<-hto]⟩⟩
       |false=>
        rw[if_pos hfd] at hto
        rw[hfd] at hE3
        have hcts:=count_set (l:=fnds) (i:=y.toNat) (by rw[hfl2];exact k1) hfd
        repeat' (first|refine aQ ?_|exact eh|with_reducible refine aB ?_ ?_|((with_reducible refine Ask.mk ?_);first|exact dJ|(exact hl2m)|exact cj)|(apply aA;(·(first|exact e3 _|exact e4 _|exact cL)))|(simp only[hE3])|(apply aO (g:=none);(·exact fun _=>pQ _ _))|(apply aO (g:=none);(·exact fun _=>om _ _ _))|refine aH ?_|((with_reducible refine aE ?_ ?_)<;>intro hc<;>try(exfalso;omega)))
        refine aG (ma (l:=l) ?_ (by omega)) ?_
        ·exact(hT.cc cX (fun b h1 h2=>cE)).1
        rintro _ H3 n3 ⟨rfl,hn3,hkp⟩
        have hb:∀{p:Prop},p->p:=fun h=>h
        have r03:bt H3 0=some (.row 60 4 d02 [g.av]):=(hkp 0 cX).trans bu
        have r63:bt H3 6=some (.row 31 1 d62 (lks.map fE)):=(hkp 6 cX).trans bu
        have r83:bt H3 8=some (.row 3 0 d82 (mapA (sj (fS E2 y true)))):=(hkp 8 cX).trans bu
        have r123:bt H3 12=some (.row 3 1 d122 (tds.map i64)):=(hkp 12 cX).trans bu
        have hn23:n2<n3:=Nat.lt_of_lt_of_le cX hn3
        have hT3:nC (.im 1 .any (l.map i64)) (l) H3 n3:=hT.cc (Nat.le_of_lt hn23) (fun b h1 h2=>(hkp b (Nat.lt_of_lt_of_le h2 cX)).trans cE)
        clear hkp hT
        repeat' (first|refine aQ ?_|exact eh|with_reducible refine aB ?_ ?_|((with_reducible refine Ask.mk ?_);first|exact dJ|(exact hl2m)|exact cj)|(apply aA;(·(first|exact e3 _|exact e4 _|exact cL)))|refine aH ?_|((with_reducible refine aE ?_ ?_)<;>intro hc<;>try(exfalso;omega)))
        refine⟨(⟨lks.set y.toNat (l),fnds.set y.toNat true,tds++[y]⟩,j+1),by dsimp only;omega,cC,by dsimp only;omega,cX,⟨_,bu⟩,⟨_,by dsimp only;rw[<-kX];exact bu⟩,⟨_,fS E2 y true,bu, ?_⟩,⟨_,by dsimp only;rw[<-gM];exact bu⟩,hT3.cc cX (fun b h1 h2=>cE),by simp[hll2],by simp[hfl2], ?_, ?_,hto⟩
        ·intro z hz
         rw[nY,HS.wX (s:=⟨lks,fnds,tds⟩) (by rw[hfl2];exact k1)]
         by_cases hzy:z=y
         ·rw[if_pos hzy,if_pos (by rw[hzy])];rfl
         ·rw[if_neg hzy,if_neg (by omega)];exact hE2 z hz
        ·simp only[List.length_append,List.length_cons,List.length_nil];omega
        ·intro i
         rw[eS]
         split
         ·exact hnl
         ·exact hlen2 i
      ·have:j=(g.nd x.toNat).fold.length:=by omega
       subst this
       rw[List.drop_eq_nil_of_le (Nat.le_refl _),dQ] at hto
       have hnx2:=hnx _ _ hnow (by rw[hfh];exact hto.symm)
       repeat' (first|refine aQ ?_|exact aC|with_reducible refine aB ?_ ?_|(apply aA;(·exact cL))|refine aH ?_|((with_reducible refine aE ?_ ?_)<;>intro hc<;>try(exfalso;omega)))
       refine⟨(⟨lks,fnds,tds⟩,k+1),by dsimp only;omega,cC,⟨_,_,Wk.refl _ _ _,cX,⟨_,bu⟩,⟨_,bu⟩,⟨_,E2,bu,hE2⟩,⟨_,bu⟩,hnx2,by dsimp only;omega,hlen2, ?_⟩⟩
       rw[<-hrun,hfh,<-hto]
       dsimp only
       congr 1
       omega
 ·have hkt:s.todo.length<=k:=by omega
  have hrun2:eK g=(s.cB,-1):=by
   rw[<-hrun,show g.nodes.length+1 - k=(g.nodes.length - k)+1 by omega,fq,if_neg hk]
  repeat' (first|refine aQ ?_|exact aC|with_reducible refine aB ?_ ?_|(apply aA;(·exact cL))|refine aH ?_|((with_reducible refine aE ?_ ?_)<;>intro hc<;>try(exfalso;omega)))
  exact⟨.inr ⟨6,d6,s.cB,by rw[hI.lg],hrun2,bu⟩⟩
theorem wq (g:cG) (hg:g.Wf) (hw:Whole g):Pure Tryz.prog 73 [g.av] (fun r=>r=kE (eK g)):=by
 have h:=IM g hg hw
 have fL:∀L:List (List Int),c8 0 (L.map fE):=fun L=>(cD _ _).2 fun _ _=>by simp[fE,cH,cD]
 have fh:∀r,cH 0 (kE r):=fun r=>by simp only[kE,cH,c8];exact⟨fL _,trivial,trivial⟩
 by_cases hc:(eK g).1=[]
 ·refine yK (u:= .dI [.sc (.slice none 0 0),i64 (eK g).2]) (pure_or (h.mono ?_) (by simp[cH,c8]) (fh _)) (fh _) fun c=> ?_
  ·rintro r H n (⟨a,rfl,e⟩|⟨b,d,L,rfl,e,hb⟩)
   ·left;rw[e];exact dA _ (by simp[cH,c8])
   ·right
    rw[e]
    have e1:cw.dY H 6 (.dI [.sl b L.length,i64 (-1)])= .dI [cw.dY H 5 (.sl b L.length),i64 (-1)]:=by
     simp only[dY,List.map_cons,List.map_nil]
    rw[e1,dH hb (by simp),cn _ (fL L)]
    rfl
  ·unfold kE
   rw[hc]
   intro v hv
   rw[VR] at hv ⊢
   obtain⟨vs,rfl,hv⟩:=hv
   refine⟨vs,rfl, ?_⟩
   rw[cu] at hv ⊢
   obtain⟨v1,vs1,e1,h1,h2⟩:=hv
   exact⟨v1,vs1,e1,cw.db.jE c c 1 .any _ h1,h2⟩
 ·refine cp (h.mono ?_) (fh _)
  rintro r H n (⟨a,rfl,e⟩|⟨b,d,L,rfl,e,hb⟩)
  ·rw[e] at hc;exact absurd rfl hc
  ·rw[e]
   have e1:cw.dY H 6 (.dI [.sl b L.length,i64 (-1)])= .dI [cw.dY H 5 (.sl b L.length),i64 (-1)]:=by
    simp only[dY,List.map_cons,List.map_nil]
   rw[e1,dH hb (by simp),cn _ (fL L)]
   rfl
def hb (l:List Int):Nat:=l.foldl (fun a k=>a|||2^k.toNat) 0
theorem TV (l:List Int) (k:Int):hb (l++[k])=hb l|||2^k.toNat:=by simp[hb]
theorem M4:∀(l:List Int) (j:Nat),(hb l).testBit j=l.any fun k=>decide (k.toNat=j):=by
 have h:∀(l:List Int) (a j:Nat),(l.foldl (fun a k=>a|||2^k.toNat) a).testBit j=(a.testBit j||l.any fun k=>decide (k.toNat=j)):=by
  intro l
  induction l with
  |nil=>simp
  |cons k l ih=>
   intro a j
   rw[List.foldl_cons,ih,Nat.testBit_or,Nat.testBit_two_pow,List.any_cons,Bool.or_assoc]
 intro l j
 rw[hb,h];simp
theorem QV {n m:Nat} (h:∀j,n.testBit j=true->j<m):n<2^m:=by
 apply Nat.lt_of_not_le
 intro hle
 obtain⟨j,hj,ht⟩:=Nat.exists_ge_and_testBit_of_ge_two_pow hle
 exact absurd (h j ht) (by omega)
theorem SF {l:List Int} {m:Nat} (h:∀k∈l,k.toNat<m):hb l<2^m:=QV fun j hj=>by
 rw[M4,List.any_eq_true] at hj
 obtain⟨k,hk,e⟩:=hj
 rw[<-of_decide_eq_true e];exact h k hk
theorem AJ {α:Type} {p:List α->Prop} (h0:p []) (h1:∀l x,p l->p (l++[x])) (l:List α):p l:=by
 have:∀r:List α,p r.reverse:=by
  intro r
  induction r with
  |nil=>exact h0
  |cons a r ih=>rw[List.reverse_cons];exact h1 _ _ ih
 rw[<-List.reverse_reverse l];exact this _
abbrev ctz (x:Nat):Nat:=Lib.ctz 32 x
theorem P7 {x:Nat} (h0:x≠0) (h:x<4294967296):x.testBit (ctz x)=true/\(∀j,j<ctz x->x.testBit j=false)/\ctz x<32:=by
 unfold ctz Lib.ctz
 rw[if_neg h0]
 obtain⟨m,hm,hk⟩:=Lib.ctzFrom_spec 32 x (Nat.pos_of_ne_zero h0) h
 generalize Lib.ctzFrom 32 x=k at *
 refine⟨?_,fun j hj=> ?_,hk⟩
 ·rw[hm,Nat.mul_comm,Nat.testBit_mul_two_pow];simp
 ·rw[hm,Nat.mul_comm,Nat.testBit_mul_two_pow];simp;omega
theorem A1 {x:Nat} (h0:x≠0) (h:x<4294967296) (j:Nat):(x&&& (x - 1)).testBit j=(x.testBit j&&decide (j≠ctz x)):=by
 unfold ctz Lib.ctz
 rw[if_neg h0]
 obtain⟨m,hm,hk⟩:=Lib.ctzFrom_spec 32 x (Nat.pos_of_ne_zero h0) h
 generalize Lib.ctzFrom 32 x=k at *
 have e1:x - 1=2^k * (2 * m)+(2^k - 1):=by
  rw[hm,Nat.mul_add,Nat.mul_one]
  have:=Nat.one_le_two_pow (n:=k)
  omega
 have hlt:2^k - 1<2^k:=by have:=Nat.one_le_two_pow (n:=k);omega
 rw[Nat.testBit_and,e1,Nat.testBit_two_pow_mul_add _ hlt]
 by_cases hj:j<k
 ·rw[if_pos hj,Nat.testBit_two_pow_sub_one,decide_eq_true hj,Bool.and_true,decide_eq_true (by omega),Bool.and_true]
 ·rw[if_neg hj]
  have e2:x.testBit j=(2 * m+1).testBit (j - k):=by
   rw[hm,Nat.mul_comm,Nat.testBit_mul_two_pow,decide_eq_true (by omega)];simp
  rw[e2]
  by_cases e:j=k
  ·subst e;simp
  ·obtain⟨i,hi⟩:∃i,j - k=i+1:=⟨j - k - 1,by omega⟩
   rw[hi,Nat.testBit_succ,Nat.testBit_succ,show(2 * m+1) /2=m by omega,show(2 * m) /2=m by omega,decide_eq_true e]
   simp
theorem pred_lt {x:Nat} (h0:x≠0):x&&& (x - 1)<x:=by
 have:x&&& (x - 1)<=x - 1:=Nat.and_le_right
 omega
def wL:Nat->Nat->List Int
 |0,_=>[]
 |f+1,x=>if x=0 then[] else(ctz x:Int)::wL f (x&&& (x - 1))
def bits (x:Nat):List Int:=wL x x
theorem pG:∀(f x:Nat),x<=f->wL f x=bits x
 |0,x,h=>by have:x=0:=by omega
            subst this;rfl
 |f+1,x,h=>by
  by_cases h0:x=0
  ·subst h0;rfl
  ·obtain⟨y,rfl⟩:∃y,x=y+1:=⟨x - 1,by omega⟩
   have:=pred_lt h0
   rw[wL,if_neg h0,bits,wL,if_neg h0,pG f _ (by omega),pG y _ (by omega)]
theorem rF {x:Nat} (h0:x≠0):bits x=(ctz x:Int)::bits (x&&& (x - 1)):=by
 obtain⟨y,rfl⟩:∃y,x=y+1:=⟨x - 1,by omega⟩
 have:=pred_lt h0
 rw[bits,wL,if_neg h0,pG y _ (by omega)]
section
def gQ (u:bx):Int×Int×Int:=if fK u=true then fJ u u.bw 0 else(60,0,0)
structure pC (u:bx) (g:cG) (n:Node):Prop where
 kind:1<=n.kind/\n.kind<10
 origin:0<=n.origin/\n.origin<4096
 op:(n.kind=1->n.op<19)/\(n.kind≠1->n.op=0)
 slot:(j0 n.kind=true->0<=n.slot/\n.slot<g.bz)/\(j0 n.kind=false->n.slot=0)
 cI:(ej n.kind=true->0<=n.cI/\n.cI<(if n.kind=5\/n.kind=6 then u.cB.length else u.shared.length:Nat))/\(ej n.kind=false->n.cI=0)
 a:pe n.a (nt n.kind) g.bz=true
 b:pe n.b (decide (n.kind=1)&&dv n.op) g.bz=true
 next:(jA n.kind=true->0<=n.next/\n.next<g.nodes.length)/\(jA n.kind=false->n.next=0)
 rN:(n.kind=8->0<=n.rN/\n.rN<g.nodes.length)/\(n.kind≠8->n.rN=0)
theorem NW {n most:Int} {b:Bool}:p6 n b most=true↔(b=true->0<=n/\n<most)/\(b=false->n=0):=by
 unfold p6
 cases b<;>simp
theorem oU {u:bx} {g:cG} {n:Node}:jF u g n=true↔pC u g n:=by
 unfold jF
 simp only[Bool.and_eq_true,decide_eq_true_eq,NW,Bool.ite_eq_true_distrib]
 constructor
 ·rintro⟨⟨⟨⟨⟨⟨⟨⟨h1,h2,h3,h4⟩,h5⟩,h6⟩,h7⟩,h8⟩,h9⟩,h10⟩,h11⟩
  refine⟨⟨h1,h2⟩,⟨h3,h4⟩, ?_,h6, ?_,h8,h9,h10, ?_⟩
  ·by_cases h:n.kind=1
   ·rw[if_pos h] at h5;exact⟨fun _=>h5,fun e=>absurd h e⟩
   ·rw[if_neg h] at h5;exact⟨fun e=>absurd e h,fun _=>h5⟩
  ·refine⟨fun e=> ?_,h7.2⟩
   have:=h7.1 e
   split at this<;>rename_i hh
   ·rw[if_pos hh];exact this
   ·rw[if_neg hh];exact this
  ·exact⟨fun e=>h11.1 (by simp[e]),fun e=>h11.2 (by simp[e])⟩
 ·intro h
  refine⟨⟨⟨⟨⟨⟨⟨⟨h.kind.1,h.kind.2,h.origin.1,h.origin.2⟩, ?_⟩,h.slot⟩,⟨fun e=> ?_,h.cI.2⟩⟩,h.a⟩,h.b⟩,h.next⟩, ?_⟩
  ·by_cases e:n.kind=1
   ·rw[if_pos e];exact h.op.1 e
   ·rw[if_neg e];exact h.op.2 e
  ·have:=h.cI.1 e
   split at this<;>rename_i hh
   ·rw[if_pos hh];exact this
   ·rw[if_neg hh];exact this
  ·exact⟨fun e=>h.rN.1 (by simpa using e),fun e=>h.rN.2 (by simpa using e)⟩
theorem jY {α:Type} {p:α->Bool}:∀{l:List α} {i:Nat},gH p l i=none↔∀x∈l,p x=true
 |[],i=>by simp[gH]
 |x::l,i=>by
  rw[gH]
  by_cases h:p x=true
  ·rw[if_pos h,jY];simp[h]
  ·rw[if_neg h];simp[h]
structure ef (u:bx) (g:cG):Prop where
 locals:0<=g.locals/\g.locals<=64
 bz:g.locals<=g.bz/\g.bz<=4160
 len:1<=g.nodes.length/\g.nodes.length<=4096
 nodes:∀n∈g.nodes,pC u g n
 held:(eK g).2<0
theorem TP {u:bx} {g:cG} {n:Node} (h:pC u g n) {k:Int} (hk:k∈n.gh):0<=k/\k<g.nodes.length:=by
 unfold Node.gh at hk
 have hkd:=h.kind
 split at hk
 ·simp at hk
 ·rename_i h9
  have hn:=h.next.1 (by unfold jA;exact decide_eq_true (by omega))
  split at hk
  ·rename_i h8
   have he:=h.rN.1 h8
   simp only[List.mem_cons,List.not_mem_nil,or_false] at hk
   rcases hk with rfl|rfl
   ·exact hn
   ·exact he
  ·simp only[List.mem_cons,List.not_mem_nil,or_false] at hk
   subst hk;exact hn
theorem vV {u:bx} {g:cG} (hl:1<=g.nodes.length/\g.nodes.length<=4096) (h:∀n∈g.nodes,pC u g n):Whole g:=
 ⟨hl.1,hl.2,fun i hi=>by
  have hn:=h _ (cO default hi)
  exact⟨hn.kind.1,hn.kind.2,fun k hk=>by have:=TP hn hk;omega⟩⟩
theorem ef.whole {u:bx} {g:cG} (h:ef u g):Whole g:=vV h.len h.nodes
theorem ef.node {u:bx} {g:cG} (h:ef u g) {i:Nat} (hi:i<g.nodes.length):pC u g (g.nd i):=h.nodes _ (cO default hi)
theorem sN {u:bx} {g:cG}:nW u g=none↔ef u g:=by
 unfold nW
 constructor
 ·intro h
  split at h
  ·cases h
  ·rename_i h1
   cases hf:gH (jF u g) g.nodes 0 with
   |some i=>rw[hf] at h;cases h
   |none=>
    rw[hf] at h
    simp only at h
    split at h
    ·cases h
    ·rename_i h2
     exact⟨by omega,by omega,by omega,fun n hn=>oU.1 (jY.1 hf n hn),by omega⟩
 ·intro h
  have h1:=h.locals
  have h2:=h.bz
  have h3:=h.len
  have h4:=h.held
  rw[if_neg (by omega),jY.2 fun n hn=>oU.2 (h.nodes n hn)]
  simp only
  rw[if_neg (by omega)]
theorem pS {u:bx}:∀{l:List cG} {t:Nat},fJ u l t=(0,0,0)↔∀g∈l,ef u g
 |[],t=>by simp[fJ]
 |g::r,t=>by
  rw[fJ]
  cases h:nW u g with
  |some k=>
   have:¬ef u g:=fun e=>by rw[sN.2 e] at h;cases h
   simp[this]
  |none=>
   have:=sN.1 h
   simp[pS,this]
theorem sO {u:bx}:∀{l:List cG} {t:Nat},fJ u l t≠(0,0,0)->(fJ u l t).1=60
 |[],t,h=>absurd rfl h
 |g::r,t,h=>by
  rw[fJ] at h ⊢
  cases hg:nW u g with
  |some k=>rfl
  |none=>rw[hg] at h;exact sO h
structure cg (u:bx):Prop where
 named:fK u=true
 bw:∀g∈u.bw,ef u g
theorem js {u:bx}:gQ u=(0,0,0)↔cg u:=by
 unfold gQ
 constructor
 ·intro h
  split at h
  ·rename_i hn;exact⟨hn,pS.1 h⟩
  ·cases h
 ·intro h;rw[if_pos h.named,pS.2 h.bw]
theorem pH {u:bx} (h:¬cg u):(gQ u).1=60:=by
 have h2:=mt js.1 h
 unfold gQ at h2 ⊢
 split
 ·rename_i hn;rw[if_pos hn] at h2;exact sO h2
 ·rfl
open Classical in
noncomputable def EM (u:bx):Bool:=decide (cg u)
open Classical in
theorem p7 {u:bx}:EM u=true↔cg u:=by unfold EM;rw[decide_eq_true_eq]
theorem cg.oh {u:bx} (h:cg u):u.shared.length<=64/\u.cB.length<=16/\u.bw.length<=8:=by
 have:=h.named
 unfold fK at this
 simp only[Bool.and_eq_true,decide_eq_true_eq] at this
 exact⟨this.1.1.1.1,this.1.1.1.2,this.1.1.2⟩
theorem cg.gr {u:bx} (h:cg u) {t:Nat} (ht:t<u.bw.length):ef u (u.gr t):=h.bw _ (cO default ht)
theorem Y9 {u:bx} {g:cG} (hg:ef u g) {lk:Nat->List Int} (hlk:PD g lk):∀i:Int,nB g (-1) i->∀k∈lk i.toNat,0<=k/\k<u.cB.length:=by
 have hw:=hg.whole
 have hin:∀i:Int,nB g (-1) i->0<=i/\i.toNat<g.nodes.length:=fun i hi=>by
  induction hi with
  |zero=>exact⟨by omega,by have:=hw.1;simp;omega⟩
  |@step i k _ _ hk ih=>
   exact(hw.2.2 i.toNat ih.2).2.2 k hk
 intro i hi
 induction hi with
 |zero=>intro k hk;rw[show(0:Int).toNat=0 by rfl,hlk.zero] at hk;simp at hk
 |@step i j hi hc hj ih=>
  obtain⟨now,h1,h2⟩:=hlk.on i hi
  have hn:=hg.node (hin i hi).2
  rw[h2 j hj]
  intro k hk
  unfold dM at h1
  split at h1
  ·rename_i h5
   cases h1
   rcases List.mem_append.1 hk with hk|hk
   ·exact ih k hk
   ·simp only[List.mem_cons,List.not_mem_nil,or_false] at hk
    subst hk
    have:=hn.cI.1 (by unfold ej;exact decide_eq_true (by omega))
    rw[if_pos (.inl h5)] at this
    exact this
  ·split at h1
   ·split at h1
    ·cases h1
     exact ih k (List.dropLast_subset _ hk)
    ·cases h1
   ·split at h1
    ·split at h1
     ·cases h1;exact ih k hk
     ·cases h1
    ·cases h1;exact ih k hk
theorem F7 {u:bx} {g:cG} (hg:ef u g) (i:Nat):∀k∈(eK g).1.getD i [],0<=k/\k<u.cB.length:=by
 obtain⟨h1,h2,h3,h4⟩:=l7 hg.whole hg.held
 by_cases hi:i<g.nodes.length
 ·by_cases hc:nB g (-1) i
  ·exact Y9 hg h3 i hc
  ·rw[h4 i hi hc];intro k hk;simp at hk
 ·rw[List.getD,List.getElem?_eq_none (by omega)];intro k hk;simp at hk
end
theorem uR {α:Type} {p:α->Bool} {l:List α} (d:α) {i:Nat} (h:gH p (l.drop i) i=gH p l 0) (hi:i<l.length):gH p l 0=if p (l.getD i d)=true then gH p (l.drop (i+1)) (i+1) else some i:=by
 rw[<-h,zb p l d hi]
theorem qO {u:bx} {l:List cG} {t:Nat} (h:t<l.length):fJ u (l.drop t) t=match nW u (l.getD t default) with
 |some k=>(60,(t:Int),k)
 |none=>fJ u (l.drop (t+1)) (t+1):=by
 rw[List.drop_eq_getElem_cons h,fJ,gd h];rfl
theorem mF {u:bx} (h:fK u=false):gQ u=(60,0,0):=by unfold gQ;rw[if_neg (by rw[h];decide)]
abbrev mE (r:Int×Int×Int):AV:= .dI [i64 r.1,i64 r.2.1,i64 r.2.2]
set_option maxHeartbeats 4000000 in
theorem mG (u:bx) (hu:u.Wf):Pure Tryz.prog 35 [u.av] (fun r=>r=mE (gQ u)):=by
 refine aD aAR rfl ?_
 have hnp:=DW u hu
 cases hnm:fK u with
 |false=>
  rw[hnm] at hnp
  rw[mF hnm]
  repeat' (first|refine aQ ?_|exact eh|with_reducible refine aB ?_ ?_|((with_reducible refine Ask.mk ?_);first|exact dJ|exact cj|(intro h;simp_all[bx.cells]<;>fail)|(simp_all[bx.cells]<;>fail))|(apply aA;(·exact cL))|refine aK (hnp) ?_|refine aH ?_|((with_reducible refine aE ?_ ?_)<;>intro hc<;>try(exfalso;omega)))
  exact rfl
 |true=>
  rw[hnm] at hnp
  have hck:gQ u=fJ u u.bw 0:=by unfold gQ;rw[if_pos hnm]
  rw[hck]
  have hgl:u.bw.length<=8:=by
   have:=hnm
   unfold fK at this
   simp only[Bool.and_eq_true,decide_eq_true_eq] at this
   exact this.1.1.2
  repeat' (first|refine aQ ?_|exact eh|with_reducible refine aB ?_ ?_|((with_reducible refine Ask.mk ?_);first|exact dJ|exact cj|(intro h;simp_all[bx.cells]<;>fail)|(simp_all[bx.cells]<;>fail))|(apply aA;(·exact cL))|refine aK (hnp) ?_|refine aH ?_|((with_reducible refine aE ?_ ?_)<;>intro hc<;>try(exfalso;omega)))
  simp only[List.length_map]
  refine aF (fun t:Nat=>[(1, .pt 0 1 0 0),(15,cZ u.bw),(16,i64 u.bw.length),(17,i64 t)])
   (fun t H n=>t<=u.bw.length/\1<=n/\(∃d,bt H 0=some (.row 25 3 d [u.av]))/\fJ u (u.bw.drop t) t=fJ u u.bw 0) (fun t=>u.bw.length - t) 0 cC ⟨Nat.zero_le _,cX,⟨_,bu⟩,rfl⟩ ?_
  rintro t H n ⟨ht,hn,⟨d0,r0⟩,hF⟩
  by_cases htl:t<u.bw.length
  ·have hg:=hu.bw _ (cO default htl)
   rw[qO htl] at hF
   have eg:=fun d=>nV htl d
   generalize hG:u.bw.getD t default=g at *
   have hl:=hg.len
   unfold nW at hF
   by_cases hb:g.locals<0\/g.locals>64\/g.bz<g.locals\/g.bz>4160\/g.nodes.length<1\/g.nodes.length>4096
   ·rw[if_pos hb] at hF
    rw[<-hF]
    repeat' (first|refine aQ ?_|exact eh|with_reducible refine aB ?_ ?_|((with_reducible refine Ask.mk ?_);first|exact dJ|exact cj|(intro h;simp_all[bx.cells,cG.cells]<;>fail)|(simp_all[bx.cells,cG.cells]<;>fail))|(apply aA;(·(first|exact eg _|exact cL)))|refine aH ?_|((with_reducible refine aE ?_ ?_)<;>intro hc<;>try(exfalso;omega)))
    all_goals first|exact rfl|(exfalso;omega)
   ·rw[if_neg hb] at hF
    repeat' (first|refine aQ ?_|exact eh|with_reducible refine aB ?_ ?_|((with_reducible refine Ask.mk ?_);first|exact dJ|exact cj|(intro h;simp_all[bx.cells,cG.cells]<;>fail)|(simp_all[bx.cells,cG.cells]<;>fail))|(apply aA;(·(first|exact eg _|exact cL)))|refine aH ?_|((with_reducible refine aE ?_ ?_)<;>intro hc<;>try(exfalso;omega)))
    simp only[List.length_map]
    clear hnp
    refine aF (fun i:Nat=>[(1, .pt 0 1 0 0),(5,i64 t),(6, .pt (n+4) 1 0 0),(15,cZ u.bw),(16,i64 u.bw.length),(17,i64 t),(56,jh g.nodes),(57,i64 g.nodes.length),(58,i64 i)])
     (fun i H2 n2=>i<=g.nodes.length/\n+5<=n2/\(∃d,bt H2 0=some (.row 25 3 d [u.av]))/\(∃d,bt H2 (n+4)=some (.row 60 4 d [g.av]))/\gH (jF u g) (g.nodes.drop i) i=gH (jF u g) g.nodes 0) (fun i=>g.nodes.length - i) 0 cC ⟨Nat.zero_le _,cX,⟨_,bu⟩,⟨_,bu⟩,rfl⟩ ?_
    clear r0
    rintro i H2 n2 ⟨hi,hn2,⟨d02,r0⟩,⟨d4,r4⟩,hfst⟩
    by_cases hil:i<g.nodes.length
    ·have hp:=EN u g (g.nodes.getD i default) (hg.nodes _ (cO default hil))
     have en:=fun d=>gm hil d
     have hfst2:=uR default hfst hil
     cases hnb:jF u g (g.nodes.getD i default) with
     |false=>
      rw[hnb] at hp
      rw[if_neg (by rw[hnb];decide)] at hfst2
      rw[hfst2] at hF
      rw[<-hF]
      repeat' (first|refine aQ ?_|exact eh|with_reducible refine aB ?_ ?_|((with_reducible refine Ask.mk ?_);first|exact dJ|exact cj|(intro h;simp_all[bx.cells,cG.cells,Node.cells]<;>fail)|(simp_all[bx.cells,cG.cells,Node.cells]<;>fail))|(apply aA;(·(first|exact en _|exact cL)))|refine aK (hp) ?_|refine aH ?_|((with_reducible refine aE ?_ ?_)<;>intro hc<;>try(exfalso;omega)))
      exact rfl
     |true=>
      rw[hnb] at hp
      rw[if_pos hnb] at hfst2
      repeat' (first|refine aQ ?_|exact eh|with_reducible refine aB ?_ ?_|((with_reducible refine Ask.mk ?_);first|exact dJ|exact cj|(intro h;simp_all[bx.cells,cG.cells,Node.cells]<;>fail)|(simp_all[bx.cells,cG.cells,Node.cells]<;>fail))|(apply aA;(·(first|exact en _|exact cL)))|refine aK (hp) ?_|refine aH ?_|((with_reducible refine aE ?_ ?_)<;>intro hc<;>try(exfalso;omega)))
      exact⟨i+1,by omega,cC,by omega,cX,⟨_,bu⟩,⟨_,bu⟩,hfst2.symm⟩
    ·have:i=g.nodes.length:=by omega
     subst this
     rw[uQ _ _ (Nat.le_refl _)] at hfst
     rw[<-hfst] at hF
     dsimp only at hF
     have hok:Whole g:=vV (u:=u) (by omega) fun m hm=>oU.1 (jY.1 hfst.symm m hm)
     have hh:=wq g hg hok
     unfold kE at hh
     by_cases hb2:0<=(eK g).2
     ·rw[if_pos hb2] at hF
      rw[<-hF]
      repeat' (first|refine aQ ?_|exact eh|with_reducible refine aB ?_ ?_|((with_reducible refine Ask.mk ?_);first|exact dJ|exact cj|(intro h;simp_all[bx.cells,cG.cells]<;>fail)|(simp_all[bx.cells,cG.cells]<;>fail))|(apply aA;(·exact cL))|refine aK (hh) ?_|refine aH ?_|((with_reducible refine aE ?_ ?_)<;>intro hc<;>try(exfalso;omega)))
      exact rfl
     ·rw[if_neg hb2] at hF
      repeat' (first|refine aQ ?_|exact eh|with_reducible refine aB ?_ ?_|((with_reducible refine Ask.mk ?_);first|exact dJ|exact cj|(intro h;simp_all[bx.cells,cG.cells]<;>fail)|(simp_all[bx.cells,cG.cells]<;>fail))|(apply aA;(·exact cL))|refine aK (hh) ?_|refine aH ?_|((with_reducible refine aE ?_ ?_)<;>intro hc<;>try(exfalso;omega)))
      exact⟨t+1,by omega,cC,by omega,by omega,⟨_,bu⟩,hF⟩
  ·have:t=u.bw.length:=by omega
   subst this
   rw[List.drop_eq_nil_of_le (Nat.le_refl _),fJ] at hF
   rw[<-hF]
   repeat' (first|refine aQ ?_|exact eh|with_reducible refine aB ?_ ?_|((with_reducible refine Ask.mk ?_);first|exact dJ|exact cj|(intro h;simp_all[bx.cells]<;>fail)|(simp_all[bx.cells]<;>fail))|(apply aA;(·exact cL))|refine aH ?_|((with_reducible refine aE ?_ ?_)<;>intro hc<;>try(exfalso;omega)))
   exact rfl
end Go.Proofs.YtjopoheligmmoaaGreatDoor
