import Derived.Test.YtmonponfppdgfaaGreatDoorM29
import Derived.Test.YtmonponfppdgfaaGreatDoorM23
section
/- A thread is asked for: the walk; Live. -/
namespace Go.Proofs.YtmonponfppdgfaaGreatDoor
open Go Go.ch Go.Proofs
set_option linter.unusedSimpArgs false
set_option linter.unusedVariables false
abbrev LR:AV:= .sc (.pointer none)
theorem sm (u:bp) (hu:u.Wf) (hr:¬c8 u) (t:Int):Pure Tryz.prog 22 [u.av,i64 t] (fun r=>r= .dI [LR,i64 60]):=by
 have h:=kn u hu
 rw[if_neg (mt cV.1 hr)] at h
 refine aJ xr rfl ?_
 repeat' (first|((with_reducible refine aE ?_);conv=>whnf)|refine aG ?_|exact cN|with_reducible refine aD ?_ ?_|((with_reducible refine Ask.mk ?_);first|exact bw|exact br|(intro h;simp_all[bp.cells]<;>fail)|(simp_all[bp.cells]<;>fail))|(apply aA;(·exact bm))|refine aK (h) ?_|refine aH ?_|((with_reducible refine aB ?_ ?_)<;>intro hc<;>(try simp only[List.length_map,ne_eq,cD] at hc)<;>try(exfalso;omega)))
 exact rfl
theorem pM (u:bp) (hu:u.Wf) (hr:c8 u) (t:Int) (ht:t<0∨(u.bq.length:Int)≤t):Pure Tryz.prog 22 [u.av,i64 t] (fun r=>r= .dI [LR,i64 2]):=by
 have h:=kn u hu
 rw[if_pos (cV.2 hr)] at h
 unfold gJ at h
 have hf:cL 0 ((cu u).map cB.av):=gY _
 refine aJ xr rfl ?_
 repeat' (first|((with_reducible refine aE ?_);conv=>whnf)|refine aG ?_|exact cN|with_reducible refine aD ?_ ?_|((with_reducible refine Ask.mk ?_);first|exact bw|exact br|(intro h;simp_all[bp.cells]<;>fail)|(simp_all[bp.cells]<;>fail))|(apply aA;(·exact bm))|refine aK (h) ?_|refine aH ?_|((with_reducible refine aB ?_ ?_)<;>intro hc<;>(try simp only[List.length_map,ne_eq,cD] at hc)<;>try(exfalso;omega)))
 all_goals first|exact rfl|(exfalso;omega)
theorem lb {H:Hp} {k:Nat} {a b:AV}:ch.dk H (k+1) (.dI [a,b])= .dI [ch.dk H k a,ch.dk H k b]:=by simp only[dk,List.map_cons,List.map_nil]
theorem oe {H:Hp} (k:Nat) {v:Value} (h:cG 0 (.sc v)):ch.dk H k (.sc v)= .sc v:=dB k h
set_option maxRecDepth 4000 in
set_option maxHeartbeats 4000000 in
theorem qa (u:bp) (hu:u.Wf) (hr:c8 u) (t:Nat) (ht:t<u.bq.length):Pure Tryz.prog 22 [u.av,i64 t] (fun r=>r= .dI [eH (u.gr t) t (cu u),i64 0]):=by
 have h:=kn u hu
 rw[if_pos (cV.2 hr)] at h
 unfold gJ at h
 have hgw:=hu.bq _ (cC default ht)
 have hgo:=hr.gr ht
 have hrp:=oN (u.gr t) hgw (pH hgo.whole) (pg (u.gr t) hgw hgo.whole (-1) (by unfold jE;omega))
 have eg:=fun d=>j3 ht d
 refine cT ?_ (by rw[cG,cL,cL,cL];exact⟨zl _ _ _,by simp[cG],trivial⟩)
 refine aL xr rfl ?_
 repeat' (first|((with_reducible refine aE ?_);conv=>whnf)|refine aG ?_|exact cN|with_reducible refine aD ?_ ?_|((with_reducible refine Ask.mk ?_);first|exact bw|exact br|(intro h;simp_all[bp.cells,bo.cells]<;>fail)|(simp_all[bp.cells,bo.cells]<;>fail))|(apply aA;(·(first|exact eg _|exact bm)))|refine aK (h) ?_|refine aK (hrp) ?_|refine aH ?_|((with_reducible refine aB ?_ ?_)<;>intro hc<;>(try simp only[List.length_map,ne_eq,cD] at hc)<;>try(exfalso;omega)))
 refine⟨lb.trans ?_⟩
 rw[oe 5 (by simp[cG])]
 refine congrArg (fun z=>AV.dI [z,i64 0]) ?_
 refine(JQ (e:=76) (d:= .any) (es:=[.agg (bz (u.gr t) t (cu u))]) bk rfl).trans ?_
 rw[ca _ (by rw[cL,cG,cL];exact⟨sO _ _ _ _,trivial⟩)]
noncomputable def GQ (u:bp) (t:Int) (T:hZ):AV:=if lD u=true then(if t<0∨(u.bq.length:Int)≤t then .dI [.im 1 .any [],i64 2] else .dI [.im 1 .any (T.map fp),i64 0]) else .dI [.im 1 .any [],i64 60]
theorem zB (T:hZ):cL 0 (T.map fp):=(cJ _ _).2 fun _ _=>by simp[fp,cG,cJ]
theorem qN {P:Program} {f:FuncId} {args:List AV} {n:Int} (h:Pure P f args (fun r=>r= .dI [.sc (.slice none 0 0),i64 n])):Pure P f args (fun r=>r= .dI [.im 1 .any [],i64 n]):=by
 refine mT (u:= .dI [.sc (.slice none 0 0),i64 n]) (h.mono fun r hr=> .inl hr) (by simp[cG,cL]) fun c=> ?_
 intro v hv
 rw[VR] at hv ⊢
 obtain⟨vs,rfl,hv⟩:=hv
 refine⟨vs,rfl, ?_⟩
 rw[cY] at hv ⊢
 obtain⟨v1,vs1,e1,h1,h2⟩:=hv
 exact⟨v1,vs1,e1,ch.dZ.lx c c 1 .any _ h1,h2⟩
theorem zQ (u:bp) (hu:u.Wf) (t:Int):Pure Tryz.prog 17 [u.av,i64 t] (fun r=>r=GQ u t (fq (u.gr t.toNat))):=by
 unfold GQ
 by_cases hr:c8 u
 ·rw[if_pos (cV.2 hr)]
  by_cases ht:t<0∨(u.bq.length:Int)≤t
  ·rw[if_pos ht]
   have ha:=pM u hu hr t ht
   refine qN ?_
   refine aJ xq rfl ?_
   repeat' (first|((with_reducible refine aE ?_);conv=>whnf)|refine aG ?_|exact cN|with_reducible refine aD ?_ ?_|((with_reducible refine Ask.mk ?_);first|exact bw|exact br|(intro h;simp_all[bp.cells]<;>fail)|(simp_all[bp.cells]<;>fail))|(apply aA;(·exact bm))|refine aK (ha) ?_|refine aH ?_|((with_reducible refine aB ?_ ?_)<;>intro hc<;>(try simp only[List.length_map,ne_eq,cD] at hc)<;>try(exfalso;omega)))
   exact rfl
  ·rw[if_neg ht]
   obtain⟨k,rfl⟩:∃k:Nat,t=k:=⟨t.toNat,by omega⟩
   rw[Int.toNat_natCast]
   have hk:k<u.bq.length:=by omega
   have ha:=qa u hu hr k hk
   have hgo:=hr.gr hk
   refine cT ?_ (by rw[cG,cL,cL,cL,cG];exact⟨zB _,by simp[cG],trivial⟩)
   refine aL xq rfl ?_
   repeat' (first|((with_reducible refine aE ?_);conv=>whnf)|refine aG ?_|exact cN|with_reducible refine aD ?_ ?_|((with_reducible refine Ask.mk ?_);first|exact bw|exact br|(intro h;simp_all[bp.cells]<;>fail)|(simp_all[bp.cells]<;>fail))|(apply aA;(·exact bm))|refine aK (ha) ?_|refine aH ?_|((with_reducible refine aB ?_ ?_)<;>intro hc<;>(try simp only[List.length_map,ne_eq,cD] at hc)<;>try(exfalso;omega)))
   refine aN (tU u (u.gr k) (hu.bq _ (cC default hk)) hgo k (cu u) _ _) ?_
   rintro _ H2 n2 ⟨b,rfl,hgr⟩
   obtain⟨ids,h1,h2⟩:=hgr.at_
   repeat' (first|((with_reducible refine aE ?_);conv=>whnf)|refine aG ?_|exact aC|with_reducible refine aD ?_ ?_|(apply aA;(·exact bm))|refine aH ?_|((with_reducible refine aB ?_ ?_)<;>intro hc<;>(try simp only[List.length_map,ne_eq,cD] at hc)<;>try(exfalso;omega)))
   refine⟨lb.trans ?_⟩
   have hl:(fq (u.gr k)).length=(u.gr k).nodes.length:=(iU _ _ _ _).len
   rw[oe 5 (by simp[cG]),←hl]
   exact congrArg (fun z=>AV.dI [z,i64 0]) (oQ (h1.cE fun x hx=>bu) 3)
 ·rw[if_neg (mt cV.1 hr)]
  have ha:=sm u hu hr t
  refine qN ?_
  refine aJ xq rfl ?_
  repeat' (first|((with_reducible refine aE ?_);conv=>whnf)|refine aG ?_|exact cN|with_reducible refine aD ?_ ?_|((with_reducible refine Ask.mk ?_);first|exact bw|exact br|(intro h;simp_all[bp.cells]<;>fail)|(simp_all[bp.cells]<;>fail))|(apply aA;(·exact bm))|refine aK (ha) ?_|refine aH ?_|((with_reducible refine aB ?_ ?_)<;>intro hc<;>(try simp only[List.length_map,ne_eq,cD] at hc)<;>try(exfalso;omega)))
  exact rfl
end Go.Proofs.YtmonponfppdgfaaGreatDoor
end
section
/- The document's question of names: the walk. -/
namespace Go.Proofs.YtmonponfppdgfaaGreatDoor
open Go Go.ch Go.Proofs
set_option linter.unusedSimpArgs false
set_option linter.unusedVariables false
abbrev strs (l:List ByteArray):List AV:=l.map fun s=>st s
theorem KD {l:List ByteArray} {i:Nat} (h:i<l.length) (d:AV):(strs l).getD ((i:Int)).toNat d=st (l.getD i default):=by rw[Int.toNat_natCast];exact dJ (fun s=>st s) l i d h
theorem GI (l:List ByteArray) (s:ByteArray):strs l++[st s]=strs (l++[s]):=by simp[strs]
theorem GJ (l:List ByteArray):(strs l).length=l.length:=by simp[strs]
theorem HB {l:List Decl} {i:Nat} (h:i<l.length) (d:AV):(l.map Decl.av).getD ((i:Int)).toNat d=(l.getD i default).av:=by rw[Int.toNat_natCast];exact dJ Decl.av l i d h
def rV:List ByteArray→List Decl→Bool→Bool
 |_,[],_=>true
 |acc,d::r,w=>if(fS d.name&&(w||decide (d.word=0))&& !gQ acc d.name)=true then rV (acc++[d.name]) r w else false
def mZ (l:List Decl) (i:Nat):List ByteArray:=(l.take i).map Decl.name
theorem F0 {acc:List ByteArray} {l:List Decl} {w:Bool} {i:Nat} (h:i<l.length):rV acc (l.drop i) w=if(fS (l.getD i default).name&&(w||decide ((l.getD i default).word=0))&& !gQ acc (l.getD i default).name)=true then rV (acc++[(l.getD i default).name]) (l.drop (i+1)) w else false:=by
 rw[List.drop_eq_getElem_cons h,rV,show l.getD i default=l[i] by simp[List.getD,h]]
theorem AX {l:List Decl} {i:Nat} (h:i<l.length):mZ l (i+1)=mZ l i++[(l.getD i default).name]:=by
 unfold mZ
 rw[List.take_succ_eq_append_getElem h,List.map_append,show l.getD i default=l[i] by simp[List.getD,h]];rfl
theorem FU {l:List Decl} {i:Nat} (h:i≤l.length):(mZ l i).length=i:=by simp[mZ];omega
theorem AW {l:List ByteArray} {k:Nat} (h:k<l.length) (s:ByteArray):gQ (l.take (k+1)) s=(gQ (l.take k) s||decide (s=l.getD k default)):=by
 rw[Bool.eq_iff_iff,Bool.or_eq_true,wW,wW,decide_eq_true_eq,List.take_succ_eq_append_getElem h,List.mem_append,show l.getD k default=l[k] by simp[List.getD,h]]
 simp
theorem KZ (a b:ByteArray):(a==b)=decide (a=b):=by
 obtain⟨d⟩:=a
 obtain⟨d'⟩:=b
 show(d==d')=_
 rw[Bool.eq_iff_iff]
 simp
def yn (nv:AV) (L:List ByteArray) (H:Hp) (nx:Nat):Prop:=(nv= .sc (.slice none 0 0)∧L=[])∨∃b d,nv= .sl b L.length∧b<nx∧bj H b=some (.row 9 1 d (strs L))
def iG (nv:AV) (y:Nat):Prop:=∀b n,nv= .sl b n→y≠b
theorem vB {b n y:Nat} (h:iG (.sl b n) y):y≠b:=h b n rfl
theorem B0 {b n m y:Nat} (h:iG (.sl b n) y):iG (.sl b m) y:=fun b' n' e=>by cases e;exact h b n rfl
set_option maxRecDepth 4000 in
set_option maxHeartbeats 8000000 in
theorem wc (l:List Decl) (hl:l.length≤64) (hw:∀d∈l,d.Wf) (a0:List ByteArray) (ha:a0.length≤1000) (w:Bool) (nv0:AV) (H0:Hp) (nx:Nat) (ht0:yn nv0 a0 H0 nx):cM Tryz.prog 55 [dM l,nv0,bl w] H0 nx (fun r H n=>nx≤n∧(∀y,y<nx→iG nv0 y→bj H y=bj H0 y)∧(rV a0 l w=true→∃nv,r= .dI [nv,bl true]∧yn nv (a0++l.map Decl.name) H n∧∀y,y<nx→iG nv0 y→iG nv y)∧(rV a0 l w=false→r= .dI [.sc (.slice none 0 0),bl false])):=by
 have hml:(l.map Decl.av).length=l.length:=by simp
 refine aL EE rfl ?_
 repeat' (first|((with_reducible refine aE ?_);conv=>whnf)|refine aG ?_|exact aC|with_reducible refine aD ?_ ?_|(apply aA;(·exact bm))|refine aH ?_|((with_reducible refine aB ?_ ?_)<;>intro hc<;>(try simp only[List.length_map,ne_eq,cD] at hc)<;>try(exfalso;omega)))
 refine aI (fun σ:Nat×AV=>[(0,dM l),(1,σ.2),(2,bl w),(8,i64 σ.1)])
  (fun σ H n=>σ.1≤l.length∧nx≤n∧rV (a0++mZ l σ.1) (l.drop σ.1) w=rV a0 l w∧yn σ.2 (a0++mZ l σ.1) H n∧(∀y,y<nx→iG nv0 y→iG σ.2 y)∧∀y,y<nx→iG nv0 y→bj H y=bj H0 y) (fun σ=>l.length - σ.1) (0,nv0) bt ⟨Nat.zero_le _,cH,by simp[mZ], ?_,fun _ _ h=>h,fun y hy _=>bu⟩ ?_
 ·rw[show a0++mZ l (0:Nat)=a0 by simp[mZ]]
  rcases ht0 with h|⟨b,d,h1,h2,h3⟩
  ·exact .inl h
  ·exact .inr ⟨b,d,h1,Nat.lt_of_lt_of_le h2 cH,Eq.trans bu h3⟩
 rintro⟨i,nv⟩ H n ⟨hi,hnn,hok,htold,hap,hkp⟩
 dsimp only at hi hok htold hap ⊢
 have hLl:(a0++mZ l i).length=a0.length+i:=by rw[List.length_append,FU hi]
 by_cases hil:i<l.length
 ·have ed:=fun d=>HB (l:=l) hil d
  have hdw:=hw _ (cC default hil)
  have hnm:=y5 (l.getD i default).name hdw.name
  rw[F0 hil] at hok
  have hnx:a0++mZ l (i+1)=(a0++mZ l i)++[(l.getD i default).name]:=by rw[AX hil,List.append_assoc]
  generalize hL:a0++mZ l i=L at *
  generalize l.getD i default=dd at *
  have hsl:(strs L).length=L.length:=GJ L
  rcases htold with⟨rfl,hL0⟩|⟨b,d,rfl,hbn,hb⟩
  ·have hL0l:L.length=0:=by rw[hL0];rfl
   repeat' (first|((with_reducible refine aE ?_);conv=>whnf)|refine aG ?_|exact cN|with_reducible refine aD ?_ ?_|((with_reducible refine Ask.mk ?_);first|exact bw|(exact hml)|(exact hsl)|exact br|(intro h;simp_all[Decl.cells]<;>fail)|(simp_all[Decl.cells]<;>fail))|(apply aA;(·(first|exact ed _|exact bm)))|refine aK (hnm) ?_|refine aH ?_|((with_reducible refine aB ?_ ?_)<;>intro hc<;>(try simp only[List.length_map,ne_eq,cD] at hc)<;>try(exfalso;omega)))
   refine aI (fun σ:Nat×Bool=>[(0,dM l),(1, .sc (.slice none 0 0)),(2,bl w),(8,i64 i),(9,bl σ.2),(10,i64 σ.1)])
    (fun σ H2 n2=>σ.1≤L.length∧n≤n2∧σ.2=(fS dd.name&&(w||decide (dd.word=0))&& !gQ (L.take σ.1) dd.name)∧∀y,y<nx→iG nv0 y→bj H2 y=bj H0 y) (fun σ=>L.length - σ.1) (0,(if fS dd.name=true then(if w=true then true else decide (dd.word=0)) else false)) bt ⟨Nat.zero_le _,cH,by cases fS dd.name<;>cases w<;>simp[gQ],fun y hy h=>Eq.trans bu (hkp y hy h)⟩ ?_
   rintro⟨k,okv⟩ H2 n2 ⟨hk,hn2,hokv,hkp2⟩
   dsimp only at hk hokv ⊢
   by_cases hkl:k<L.length
   ·exfalso;omega
   ·have:k=L.length:=by omega
    subst this
    rw[List.take_length] at hokv
    rw[←hokv] at hok
    cases okv with
    |false=>
     rw[if_neg (by decide)] at hok
     repeat' (first|((with_reducible refine aE ?_);conv=>whnf)|refine aG ?_|exact aC|with_reducible refine aD ?_ ?_|(apply aA;(·exact bm))|refine aH ?_|((with_reducible refine aB ?_ ?_)<;>intro hc<;>(try simp only[List.length_map,ne_eq,cD] at hc)<;>try(exfalso;omega)))
     first|refine⟨?_, ?_, ?_, ?_⟩|refine⟨⟨?_, ?_, ?_, ?_⟩⟩
     ·exact Nat.le_trans (Nat.le_trans hnn hn2) cH
     ·exact fun y hy h=>Eq.trans bu (hkp2 y hy h)
     ·intro h;rw[←hok] at h;cases h
     ·exact fun _=>rfl
    |true=>
     rw[if_pos rfl] at hok
     repeat' (first|((with_reducible refine aE ?_);conv=>whnf)|refine aG ?_|exact cN|with_reducible refine aD ?_ ?_|((with_reducible refine Ask.mk ?_);first|exact bw|(exact hml)|(exact hsl)|exact br|(intro h;simp_all[Decl.cells]<;>fail)|(simp_all[Decl.cells]<;>fail))|(apply aA;(·(first|exact ed _|exact bm)))|refine aH ?_|((with_reducible refine aB ?_ ?_)<;>intro hc<;>(try simp only[List.length_map,ne_eq,cD] at hc)<;>try(exfalso;omega)))
     refine⟨(i+1, .sl (n2+13) ([dd.name]:List ByteArray).length),by dsimp only;omega,bt,by dsimp only;omega,Nat.le_trans (Nat.le_trans hnn hn2) cH,by dsimp only;rw[hnx];exact hok, ?_,fun y hy h=> ?_,fun y hy h=>Eq.trans bu (hkp2 y hy h)⟩
     ·rw[hnx,hL0];exact .inr ⟨n2+13,_,rfl,cH,bk⟩
     ·intro b' n' e;cases e;omega
  ·repeat' (first|((with_reducible refine aE ?_);conv=>whnf)|refine aG ?_|exact cN|with_reducible refine aD ?_ ?_|((with_reducible refine Ask.mk ?_);first|exact bw|(exact hml)|(exact hsl)|exact br|(intro h;simp_all[Decl.cells]<;>fail)|(simp_all[Decl.cells]<;>fail))|(apply aA;(·(first|exact ed _|exact bm)))|refine aK (hnm) ?_|refine aH ?_|((with_reducible refine aB ?_ ?_)<;>intro hc<;>(try simp only[List.length_map,ne_eq,cD] at hc)<;>try(exfalso;omega)))
   refine aI (fun σ:Nat×Bool=>[(0,dM l),(1, .sl b L.length),(2,bl w),(8,i64 i),(9,bl σ.2),(10,i64 σ.1)])
    (fun σ H2 n2=>σ.1≤L.length∧n≤n2∧σ.2=(fS dd.name&&(w||decide (dd.word=0))&& !gQ (L.take σ.1) dd.name)∧(∃d,bj H2 b=some (.row 9 1 d (strs L)))∧∀y,y<nx→iG nv0 y→bj H2 y=bj H0 y) (fun σ=>L.length - σ.1) (0,(if fS dd.name=true then(if w=true then true else decide (dd.word=0)) else false)) bt ⟨Nat.zero_le _,cH,by cases fS dd.name<;>cases w<;>simp[gQ],⟨_,bk⟩,fun y hy h=>Eq.trans bu (hkp y hy h)⟩ ?_
   rintro⟨k,okv⟩ H2 n2 ⟨hk,hn2,hokv,⟨d2,hb2⟩,hkp2⟩
   dsimp only at hk hokv ⊢
   by_cases hkl:k<L.length
   ·have es:=fun d=>KD (l:=L) hkl d
    have hstep:(if okv=true then !(L.getD k default==dd.name) else false)=(fS dd.name&&(w||decide (dd.word=0))&& !gQ (L.take (k+1)) dd.name):=by
     rw[AW hkl,KZ,hokv]
     have:decide (L.getD k default=dd.name)=decide (dd.name=L.getD k default):=decide_eq_decide.2 ⟨Eq.symm,Eq.symm⟩
     rw[this]
     cases fS dd.name<;>cases(w||decide (dd.word=0))<;>cases gQ (L.take k) dd.name<;>cases decide (dd.name=L.getD k default)<;>rfl
    repeat' (first|((with_reducible refine aE ?_);conv=>whnf)|refine aG ?_|exact cN|with_reducible refine aD ?_ ?_|((with_reducible refine Ask.mk ?_);first|exact bw|(exact hml)|(exact hsl)|exact br|(intro h;simp_all[Decl.cells]<;>fail)|(simp_all[Decl.cells]<;>fail))|(apply aA;(·(first|exact ed _|exact es _|exact bm)))|refine aH ?_|((with_reducible refine aB ?_ ?_)<;>intro hc<;>(try simp only[List.length_map,ne_eq,cD] at hc)<;>try(exfalso;omega)))
    exact⟨(k+1,if okv=true then !(L.getD k default==dd.name) else false),by dsimp only;omega,bt,by dsimp only;omega,by first|omega|exact cH,hstep,⟨_,bk⟩,fun y hy h=>Eq.trans bu (hkp2 y hy h)⟩
   ·have:k=L.length:=by omega
    subst this
    rw[List.take_length] at hokv
    rw[←hokv] at hok
    cases okv with
    |false=>
     rw[if_neg (by decide)] at hok
     repeat' (first|((with_reducible refine aE ?_);conv=>whnf)|refine aG ?_|exact aC|with_reducible refine aD ?_ ?_|(apply aA;(·exact bm))|refine aH ?_|((with_reducible refine aB ?_ ?_)<;>intro hc<;>(try simp only[List.length_map,ne_eq,cD] at hc)<;>try(exfalso;omega)))
     first|refine⟨?_, ?_, ?_, ?_⟩|refine⟨⟨?_, ?_, ?_, ?_⟩⟩
     ·exact Nat.le_trans (Nat.le_trans hnn hn2) cH
     ·exact fun y hy h=>Eq.trans bu (hkp2 y hy h)
     ·intro h;rw[←hok] at h;cases h
     ·exact fun _=>rfl
    |true=>
     rw[if_pos rfl] at hok
     repeat' (first|((with_reducible refine aE ?_);conv=>whnf)|refine aG ?_|exact cN|with_reducible refine aD ?_ ?_|((with_reducible refine Ask.mk ?_);first|exact bw|(exact hml)|(exact hsl)|exact br|(intro h;simp_all[Decl.cells]<;>fail)|(simp_all[Decl.cells]<;>fail))|(apply aA;(·(first|exact ed _|exact bm)))|refine aH ?_|((with_reducible refine aB ?_ ?_)<;>intro hc<;>(try simp only[List.length_map,ne_eq,cD] at hc)<;>try(exfalso;omega)))
     refine⟨(i+1, .sl b (L++[dd.name]).length),by dsimp only;omega,by rw[List.length_append];exact bt,by dsimp only;omega,Nat.le_trans (Nat.le_trans hnn hn2) cH,by dsimp only;rw[hnx];exact hok, ?_,fun y hy h=>B0 (hap y hy h),fun y hy h=> ?_⟩
     ·rw[hnx];exact .inr ⟨b,_,rfl,Nat.lt_of_lt_of_le hbn (Nat.le_trans hn2 cH),by rw[←GI];exact bk⟩
     ·have hyb:=vB (hap y hy h)
      exact Eq.trans bu (hkp2 y hy h)
 ·have:i=l.length:=by omega
  subst this
  rw[List.drop_eq_nil_of_le (Nat.le_refl _),rV] at hok
  have hall:mZ l l.length=l.map Decl.name:=by simp[mZ]
  rw[hall] at htold
  rcases htold with⟨rfl,hL0⟩|⟨b,d,rfl,hbn,hb⟩
  ·repeat' (first|((with_reducible refine aE ?_);conv=>whnf)|refine aG ?_|exact cN|with_reducible refine aD ?_ ?_|((with_reducible refine Ask.mk ?_);first|exact bw|(exact hml)|exact br)|(apply aA;(·exact bm))|refine aH ?_|((with_reducible refine aB ?_ ?_)<;>intro hc<;>(try simp only[List.length_map,ne_eq,cD] at hc)<;>try(exfalso;omega)))
   first|refine⟨?_, ?_, ?_, ?_⟩|refine⟨⟨?_, ?_, ?_, ?_⟩⟩
   ·exact Nat.le_trans hnn cH
   ·exact fun y hy h=>Eq.trans bu (hkp y hy h)
   ·exact fun _=>⟨_,rfl, .inl ⟨rfl,hL0⟩,hap⟩
   ·intro h;rw[←hok] at h;cases h
  ·repeat' (first|((with_reducible refine aE ?_);conv=>whnf)|refine aG ?_|exact cN|with_reducible refine aD ?_ ?_|((with_reducible refine Ask.mk ?_);first|exact bw|(exact hml)|exact br)|(apply aA;(·exact bm))|refine aH ?_|((with_reducible refine aB ?_ ?_)<;>intro hc<;>(try simp only[List.length_map,ne_eq,cD] at hc)<;>try(exfalso;omega)))
   first|refine⟨?_, ?_, ?_, ?_⟩|refine⟨⟨?_, ?_, ?_, ?_⟩⟩
   ·exact Nat.le_trans hnn cH
   ·exact fun y hy h=>Eq.trans bu (hkp y hy h)
   ·exact fun _=>⟨_,rfl, .inr ⟨b,d,rfl,Nat.lt_of_lt_of_le hbn cH,bk⟩,hap⟩
   ·intro h;rw[←hok] at h;cases h
end Go.Proofs.YtmonponfppdgfaaGreatDoor
end
