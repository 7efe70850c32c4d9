import Derived.Test.YtjopoheligmmoaaGreatDoorM27
import Derived.Test.YtjopoheligmmoaaGreatDoorM29
namespace Go.Proofs.YtjopoheligmmoaaGreatDoor
open Go Go.dA Go.Proofs
set_option linter.unusedSimpArgs false
set_option linter.unusedVariables false
theorem jd.VU {a b:jd} (h1:a.iC=b.iC) (h2:a.slot=b.slot) (h3:a.word=b.word):a=b:=by
 obtain⟨a1,a2,a3⟩:=a
 obtain⟨b1,b2,b3⟩:=b
 simp only at h1 h2 h3
 subst h1;subst h2;subst h3;rfl
theorem e8 (c:Int):Pure Tryz.prog 168 [u8 c] (fun r=>r=bl (fT c)):=by
 refine aG XN rfl ?_
 repeat' (first|refine aQ ?_|exact aC|with_reducible refine aB ?_ ?_|(apply aA;(·exact cK))|refine aH ?_|((with_reducible refine aE ?_ ?_)<;>intro hc<;>try(exfalso;omega)))
 refine dw ?_
 unfold fT
 by_cases h1:48<=c<;>by_cases h2:c<=57<;>simp[h1,h2]
theorem eL (c:Int):Pure Tryz.prog 170 [u8 c] (fun r=>r=bl (iT c)):=by
 refine aG XP rfl ?_
 repeat' (first|refine aQ ?_|exact aC|with_reducible refine aB ?_ ?_|(apply aA;(·exact cK))|refine aH ?_|((with_reducible refine aE ?_ ?_)<;>intro hc<;>try(exfalso;omega)))
 refine dw ?_
 unfold iT
 by_cases h1:97<=c<;>by_cases h2:c<=122<;>by_cases h3:65<=c<;>by_cases h4:c<=90<;>by_cases h5:c=95<;>simp[h1,h2,h3,h4,h5]
theorem gh (s:ByteArray):Pure Tryz.prog 169 [st s] (fun r=>r=bl (nA s)):=by
 refine aG XO rfl ?_
 repeat' (first|refine aQ ?_|exact aC|with_reducible refine aB ?_ ?_|(apply aA;(·exact cK))|refine aH ?_|((with_reducible refine aE ?_ ?_)<;>intro hc<;>try(exfalso;omega)))
 all_goals refine dw ?_
 all_goals simp_all[nA,E8]
theorem EC (s:ByteArray) (hs:s.size<=140737488351232):Pure Tryz.prog 124 [st s] (fun r=>r=bl (fe s)):=by
 refine aG WW rfl ?_
 by_cases hz:(s.size:Int)<1
 ·have hb:fe s=false:=by unfold fe;rw[decide_eq_false (by omega)];simp
  rw[hb]
  repeat' (first|refine aQ ?_|exact aC|with_reducible refine aB ?_ ?_|(apply aA;(·exact cK))|((with_reducible refine aP (e8 _) ?_ ?_);(·exact cN))|((with_reducible refine aL (fun _=>e8 _) ?_ ?_);(·exact cN))|((with_reducible refine aN (e8 _) ?_ ?_);(·exact cN))|((with_reducible refine aO (fun _=>e8 _) ?_ ?_);(·exact cN))|((with_reducible refine aP (gh _) ?_ ?_);(·exact cN))|((with_reducible refine aL (fun _=>gh _) ?_ ?_);(·exact cN))|((with_reducible refine aN (gh _) ?_ ?_);(·exact cN))|((with_reducible refine aO (fun _=>gh _) ?_ ?_);(·exact cN))|((with_reducible refine aP (eL _) ?_ ?_);(·exact cN))|((with_reducible refine aL (fun _=>eL _) ?_ ?_);(·exact cN))|((with_reducible refine aN (eL _) ?_ ?_);(·exact cN))|((with_reducible refine aO (fun _=>eL _) ?_ ?_);(·exact cN))|(simp only[hz,decide_true])|refine aH ?_|((with_reducible refine aE ?_ ?_)<;>intro hc<;>try(exfalso;omega)))
 ·repeat' (first|refine aQ ?_|exact eE|with_reducible refine aB ?_ ?_|((with_reducible refine Ask.mk ?_);first|exact cw|((refine Ask.mk ?_);intro h;exact⟨by omega,by omega⟩)|exact cX)|(apply aA;(·exact cK))|((with_reducible refine aP (e8 _) ?_ ?_);(·exact cN))|((with_reducible refine aL (fun _=>e8 _) ?_ ?_);(·exact cN))|((with_reducible refine aN (e8 _) ?_ ?_);(·exact cN))|((with_reducible refine aO (fun _=>e8 _) ?_ ?_);(·exact cN))|((with_reducible refine aP (gh _) ?_ ?_);(·exact cN))|((with_reducible refine aL (fun _=>gh _) ?_ ?_);(·exact cN))|((with_reducible refine aN (gh _) ?_ ?_);(·exact cN))|((with_reducible refine aO (fun _=>gh _) ?_ ?_);(·exact cN))|((with_reducible refine aP (eL _) ?_ ?_);(·exact cN))|((with_reducible refine aL (fun _=>eL _) ?_ ?_);(·exact cN))|((with_reducible refine aN (eL _) ?_ ?_);(·exact cN))|((with_reducible refine aO (fun _=>eL _) ?_ ?_);(·exact cN))|(simp only[hz,decide_false])|refine aH ?_|((with_reducible refine aE ?_ ?_)<;>intro hc<;>try(exfalso;omega)))
  ·refine dw (Eq.symm ?_)
   unfold fe
   have hp:(decide (1<=s.size)&&decide (s.size<=32)&& !fT (fO s 0)&& !nA s)=false:=by
    rcases hc with((h|h)|h)|h
    ·exact absurd h (by decide)
    ·simp[show ¬s.size<=32 by omega]
    ·have h:fT (fO s 0)=true:=h
     simp[h]
    ·simp[h]
   rw[hp,Bool.false_and]
  ·have hp:(decide (1<=s.size)&&decide (s.size<=32)&& !fT (fO s 0)&& !nA s)=true:=by
    have h1:s.size<=32:=by
     have:¬(32:Int)<s.size:=fun h=>hc.1 (.inl (.inr h))
     omega
    have h2:fT (fO s 0)=false:=by
     cases hd:fT (fO s 0) with
     |false=>rfl
     |true=>exact absurd (.inr hd) hc.1
    have h3:nA s=false:=hc.2
    rw[decide_eq_true (by omega:1<=s.size),decide_eq_true h1,h2,h3];rfl
   have hb:∀R,(decide (1<=s.size)&&decide (s.size<=32)&& !fT (fO s 0)&& !nA s&&R)=R:=fun R=>by rw[hp,Bool.true_and]
   unfold fe
   rw[hb]
   clear hc hp hb
   refine aI (fun i:Nat=>[(0,st s),(3,i64 i)]) (fun i H n=>i<=s.size/\∀j,j<i->(iT (fO s j)||fT (fO s j))=true) (fun i=>s.size - i) 0 cJ ⟨Nat.zero_le _,fun _ h=>by omega⟩ ?_
   rintro i H n ⟨hi,hall⟩
   by_cases his:i<s.size
   ·repeat' (first|refine aQ ?_|exact eE|with_reducible refine aB ?_ ?_|((with_reducible refine Ask.mk ?_);first|exact cw|((refine Ask.mk ?_);intro h;exact⟨by omega,by omega⟩)|exact cX)|(apply aA;(·exact cK))|((with_reducible refine aP (e8 _) ?_ ?_);(·exact cN))|((with_reducible refine aL (fun _=>e8 _) ?_ ?_);(·exact cN))|((with_reducible refine aN (e8 _) ?_ ?_);(·exact cN))|((with_reducible refine aO (fun _=>e8 _) ?_ ?_);(·exact cN))|((with_reducible refine aP (eL _) ?_ ?_);(·exact cN))|((with_reducible refine aL (fun _=>eL _) ?_ ?_);(·exact cN))|((with_reducible refine aN (eL _) ?_ ?_);(·exact cN))|((with_reducible refine aO (fun _=>eL _) ?_ ?_);(·exact cN))|refine aH ?_|((with_reducible refine aE ?_ ?_)<;>intro hc<;>try(exfalso;omega)))
    ·refine dw (Eq.symm ?_)
     rw[Bool.eq_false_iff,ne_eq,List.all_eq_true]
     intro hA
     have h1:=hA i (List.mem_range.2 his)
     have hc:iT (fO s i)=false/\fT (fO s i)=false:=hc
     rw[hc.1,hc.2] at h1
     cases h1
    ·refine⟨i+1,by omega,cJ,by omega,fun j hj=> ?_⟩
     by_cases hji:j=i
     ·have hc:¬iT (fO s i)=false\/fT (fO s i)=true:=hc
      rw[hji]
      rcases hc with h|h
      ·rw[Bool.not_eq_false] at h
       rw[h,Bool.true_or]
      ·rw[h,Bool.or_true]
     ·exact hall j (by omega)
   ·have:i=s.size:=by omega
    subst this
    repeat' (first|refine aQ ?_|exact aC|with_reducible refine aB ?_ ?_|(apply aA;(·exact cK))|refine aH ?_|((with_reducible refine aE ?_ ?_)<;>intro hc<;>try(exfalso;omega)))
    refine dw (Eq.symm ?_)
    rw[List.all_eq_true]
    intro j hj
    exact hall j (List.mem_range.1 hj)
theorem gZ (k:Int):Pure Tryz.prog 125 [u8 k] (fun r=>r= .dQ [bl (jV k),bl (fq k),bl (nr k),bl (iY k)]):=by
 refine aG WX rfl ?_
 repeat' (first|refine aQ ?_|exact aC|with_reducible refine aB ?_ ?_|(apply aA;(·exact cK))|refine aH ?_|((with_reducible refine aE ?_ ?_)<;>intro hc<;>try(exfalso;omega)))
 all_goals first
  |(subst hc;exact rfl)
  |(have h1:jV k=false:=decide_eq_false (by omega)
    have h2:fq k=false:=decide_eq_false (by omega)
    have h3:nr k=false:=decide_eq_false (by omega)
    have h4:iY k=false:=decide_eq_false (by omega)
    rw[h1,h2,h3,h4])
theorem fY (n most:Int) (b:Bool):Pure Tryz.prog 127 [i64 n,bl b,i64 most] (fun r=>r=bl (pZ n b most)):=by
 refine aG WZ rfl ?_
 cases b with
 |false=>
  repeat' (first|refine aQ ?_|exact aC|with_reducible refine aB ?_ ?_|(apply aA;(·exact cK))|refine aH ?_|((with_reducible refine aE ?_ ?_)<;>intro hc<;>try(exfalso;omega)))
  exact rfl
 |true=>
  repeat' (first|refine aQ ?_|exact aC|with_reducible refine aB ?_ ?_|(apply aA;(·exact cK))|refine aH ?_|((with_reducible refine aE ?_ ?_)<;>intro hc<;>try(exfalso;omega)))
  refine dw ?_
  unfold pZ
  by_cases h1:0<=n<;>by_cases h2:n<most<;>simp[h1,h2]
theorem sK (v:jd) (b:Bool) (cH:Int):Pure Tryz.prog 128 [v.av,bl b,i64 cH] (fun r=>r=bl (pb v b cH)):=by
 refine aG W0 rfl ?_
 cases b with
 |false=>
  repeat' (first|refine aQ ?_|exact eE|with_reducible refine aB ?_ ?_|((with_reducible refine Ask.mk ?_);first|exact cw|exact cX|(intro h;simp_all[jd.cells]<;>fail)|(simp_all[jd.cells]<;>fail))|(apply aA;(·exact cK))|refine aH ?_|((with_reducible refine aE ?_ ?_)<;>intro hc<;>try(exfalso;omega)))
  refine dw ?_
  unfold pb
  rw[if_neg (by decide),Bool.eq_iff_iff,decide_eq_true_eq]
  constructor
  ·intro h
   simp at h
   exact jd.VU h.1 h.2.1 h.2.2
  ·intro h
   rw[h];rfl
 |true=>
  repeat' (first|refine aQ ?_|exact eE|with_reducible refine aB ?_ ?_|((with_reducible refine Ask.mk ?_);first|exact cw|exact cX|(intro h;simp_all[jd.cells]<;>fail)|(simp_all[jd.cells]<;>fail))|(apply aA;(·exact cK))|refine aH ?_|((with_reducible refine aE ?_ ?_)<;>intro hc<;>try(exfalso;omega)))
  all_goals refine dw ?_
  all_goals unfold pb
  ·rw[if_pos rfl,if_pos hc]
   by_cases h1:0<=v.slot<;>by_cases h2:v.slot<cH<;>by_cases h3:v.word=0<;>simp[h1,h2,h3]
  ·rw[if_pos rfl,if_neg (by rw[hc];decide)]
set_option maxRecDepth 4000 in
set_option maxHeartbeats 4000000 in
theorem ED (u:cF) (g:cG) (n:Node) (hn:n.Wf):Pure Tryz.prog 77 [u.av,g.av,n.av] (fun r=>r=bl (iw u g n)):=by
 have h0:=hn.kind
 have ho:=hn.op
 refine aG aAa rfl ?_
 have hva:Pure Tryz.prog 128 [.agg (List.take 3 (List.drop (0+4) n.cells)),bl (nr n.kind),i64 g.cH] (fun r=>r=bl (pb n.a (nr n.kind) g.cH)):=sK n.a _ _
 have hvb:∀b,Pure Tryz.prog 128 [.agg (List.take 3 (List.drop (0+7) n.cells)),bl b,i64 g.cH] (fun r=>r=bl (pb n.b b g.cH)):=fun b=>sK n.b b _
 have hfa:cg 0 [.agg (List.take 3 (List.drop (0+4) n.cells)),bl (nr n.kind),i64 g.cH]:=by simp[cg,cP,Node.cells]
 have hfb:∀b,cg 0 [.agg (List.take 3 (List.drop (0+7) n.cells)),bl b,i64 g.cH]:=fun b=>by simp[cg,cP,Node.cells]
 have hif:∀a b:Bool,(if a=true then b else false)=(a&&b):=fun a b=>by cases a<;>rfl
 by_cases hk:1<=n.kind/\n.kind<10/\0<=n.origin/\n.origin<4096
 ·repeat' (first|refine aQ ?_|exact eE|with_reducible refine aB ?_ ?_|((with_reducible refine Ask.mk ?_);first|exact cw|exact cX|(intro h;simp_all[cF.cells,cG.cells,Node.cells]<;>fail)|(simp_all[cF.cells,cG.cells,Node.cells]<;>fail))|(apply aA;(·exact cK))|((with_reducible refine aP (gZ _) ?_ ?_);(·exact cN))|((with_reducible refine aL (fun _=>gZ _) ?_ ?_);(·exact cN))|((with_reducible refine aN (gZ _) ?_ ?_);(·exact cN))|((with_reducible refine aO (fun _=>gZ _) ?_ ?_);(·exact cN))|((with_reducible refine aP (fY _ _ _) ?_ ?_);(·exact cN))|((with_reducible refine aL (fun _=>fY _ _ _) ?_ ?_);(·exact cN))|((with_reducible refine aN (fY _ _ _) ?_ ?_);(·exact cN))|((with_reducible refine aO (fun _=>fY _ _ _) ?_ ?_);(·exact cN))|((with_reducible refine aP (iG _) ?_ ?_);(·exact cN))|((with_reducible refine aL (fun _=>iG _) ?_ ?_);(·exact cN))|((with_reducible refine aN (iG _) ?_ ?_);(·exact cN))|((with_reducible refine aO (fun _=>iG _) ?_ ?_);(·exact cN))|(refine aL (fun _=>hva) hfa ?_)|(refine aL (fun _=>hvb _) (hfb _) ?_)|refine aH ?_|((with_reducible refine aE ?_ ?_)<;>intro hc<;>try(exfalso;omega)))
  all_goals rename_i h56
  all_goals refine dw (Eq.symm ?_)
  all_goals unfold iw
  all_goals rw[decide_eq_true hk,Bool.true_and]
  ·have hop:(if n.kind=1 then decide (n.op<19) else decide (n.op=0))=false:=by split<;>exact decide_eq_false (by omega)
   rw[hop];simp
  ·have hop:(if n.kind=1 then decide (n.op<19) else decide (n.op=0))=true:=by split<;>exact decide_eq_true (by omega)
   rw[hop,Bool.true_and,if_pos h56]
   simp only[hif,List.length_map]
  ·have hop:(if n.kind=1 then decide (n.op<19) else decide (n.op=0))=false:=by split<;>exact decide_eq_false (by omega)
   rw[hop];simp
  ·have hop:(if n.kind=1 then decide (n.op<19) else decide (n.op=0))=true:=by split<;>exact decide_eq_true (by omega)
   rw[hop,Bool.true_and,if_neg (by omega)]
   simp only[hif,List.length_map]
 ·have hb:iw u g n=false:=by unfold iw;rw[decide_eq_false hk];simp
  rw[hb]
  repeat' (first|refine aQ ?_|exact eE|with_reducible refine aB ?_ ?_|((with_reducible refine Ask.mk ?_);first|exact cw|exact cX|(intro h;simp_all[cF.cells,cG.cells,Node.cells]<;>fail)|(simp_all[cF.cells,cG.cells,Node.cells]<;>fail))|(apply aA;(·exact cK))|((with_reducible refine aP (gZ _) ?_ ?_);(·exact cN))|((with_reducible refine aL (fun _=>gZ _) ?_ ?_);(·exact cN))|((with_reducible refine aN (gZ _) ?_ ?_);(·exact cN))|((with_reducible refine aO (fun _=>gZ _) ?_ ?_);(·exact cN))|((with_reducible refine aP (fY _ _ _) ?_ ?_);(·exact cN))|((with_reducible refine aL (fun _=>fY _ _ _) ?_ ?_);(·exact cN))|((with_reducible refine aN (fY _ _ _) ?_ ?_);(·exact cN))|((with_reducible refine aO (fun _=>fY _ _ _) ?_ ?_);(·exact cN))|((with_reducible refine aP (iG _) ?_ ?_);(·exact cN))|((with_reducible refine aL (fun _=>iG _) ?_ ?_);(·exact cN))|((with_reducible refine aN (iG _) ?_ ?_);(·exact cN))|((with_reducible refine aO (fun _=>iG _) ?_ ?_);(·exact cN))|(refine aL (fun _=>hva) hfa ?_)|(refine aL (fun _=>hvb _) (hfb _) ?_)|refine aH ?_|((with_reducible refine aE ?_ ?_)<;>intro hc<;>try(exfalso;omega)))
  all_goals first|exact rfl|(exfalso;omega)
abbrev strs (l:List ByteArray):List AV:=l.map fun s=>st s
theorem UH {l:List ByteArray} {i:Nat} (h:i<l.length) (d:AV):(strs l).getD ((i:Int)).toNat d=st (l.getD i default):=by rw[Int.toNat_natCast];exact dI (fun s=>st s) l i d h
theorem OR (l:List ByteArray) (s:ByteArray):strs l++[st s]=strs (l++[s]):=by simp[strs]
theorem OS (l:List ByteArray):(strs l).length=l.length:=by simp[strs]
theorem PZ {l:List Decl} {i:Nat} (h:i<l.length) (d:AV):(l.map Decl.av).getD ((i:Int)).toNat d=(l.getD i default).av:=by rw[Int.toNat_natCast];exact dI Decl.av l i d h
def uY:List ByteArray->List Decl->Bool->Bool
 |_,[],_=>true
 |acc,d::r,w=>if(fe d.name&&(w||decide (d.word=0))&& !gJ acc d.name)=true then uY (acc++[d.name]) r w else false
def oe (l:List Decl) (i:Nat):List ByteArray:=(l.take i).map Decl.name
theorem NW {acc:List ByteArray} {l:List Decl} {w:Bool} {i:Nat} (h:i<l.length):uY acc (l.drop i) w=if(fe (l.getD i default).name&&(w||decide ((l.getD i default).word=0))&& !gJ acc (l.getD i default).name)=true then uY (acc++[(l.getD i default).name]) (l.drop (i+1)) w else false:=by
 rw[List.drop_eq_getElem_cons h,uY,show l.getD i default=l[i] by simp[List.getD,h]]
theorem I9 {l:List Decl} {i:Nat} (h:i<l.length):oe l (i+1)=oe l i++[(l.getD i default).name]:=by
 unfold oe
 rw[List.take_succ_eq_append_getElem h,List.map_append,show l.getD i default=l[i] by simp[List.getD,h]];rfl
theorem NS {l:List Decl} {i:Nat} (h:i<=l.length):(oe l i).length=i:=by simp[oe];omega
theorem I6 {l:List ByteArray} {k:Nat} (h:k<l.length) (s:ByteArray):gJ (l.take (k+1)) s=(gJ (l.take k) s||decide (s=l.getD k default)):=by
 rw[Bool.eq_iff_iff,Bool.or_eq_true,AJ,AJ,decide_eq_true_eq,List.take_succ_eq_append_getElem h,List.mem_append,show l.getD k default=l[k] by simp[List.getD,h]]
 simp
theorem VK (a b:ByteArray):(a==b)=decide (a=b):=by
 obtain⟨d⟩:=a
 obtain⟨d'⟩:=b
 show(d==d')=_
 rw[Bool.eq_iff_iff]
 simp
def FD (nv:AV) (L:List ByteArray) (H:Hp) (nx:Nat):Prop:=(nv= .sc (.slice none 0 0)/\L=[])\/∃b d,nv= .sl b L.length/\b<nx/\cC H b=some (.row 9 1 d (strs L))
def jB (nv:AV) (y:Nat):Prop:=∀b n,nv= .sl b n->y≠b
theorem yg {b n y:Nat} (h:jB (.sl b n) y):y≠b:=h b n rfl
theorem K4 {b n m y:Nat} (h:jB (.sl b n) y):jB (.sl b m) y:=fun b' n' e=>by cases e;exact h b n rfl
set_option maxRecDepth 4000 in
set_option maxHeartbeats 8000000 in
theorem AU (l:List Decl) (hl:l.length<=64) (hw:∀d∈l,d.Wf) (a0:List ByteArray) (ha:a0.length<=1000) (w:Bool) (nv0:AV) (H0:Hp) (nx:Nat) (ht0:FD nv0 a0 H0 nx):cT Tryz.prog 76 [cq l,nv0,bl w] H0 nx (fun r H n=>nx<=n/\(∀y,y<nx->jB nv0 y->cC H y=cC H0 y)/\(uY a0 l w=true->∃nv,r= .dQ [nv,bl true]/\FD nv (a0++l.map Decl.name) H n/\∀y,y<nx->jB nv0 y->jB nv y)/\(uY a0 l w=false->r= .dQ [.sc (.slice none 0 0),bl false])):=by
 have hml:(l.map Decl.av).length=l.length:=by simp
 refine aM aA9 rfl ?_
 repeat' (first|refine aQ ?_|exact aC|with_reducible refine aB ?_ ?_|(apply aA;(·exact cK))|refine aH ?_|((with_reducible refine aE ?_ ?_)<;>intro hc<;>try(exfalso;omega)))
 refine aI (fun σ:Nat×AV=>[(0,cq l),(1,σ.2),(2,bl w),(8,i64 σ.1)])
  (fun σ H n=>σ.1<=l.length/\nx<=n/\uY (a0++oe l σ.1) (l.drop σ.1) w=uY a0 l w/\FD σ.2 (a0++oe l σ.1) H n/\(∀y,y<nx->jB nv0 y->jB σ.2 y)/\∀y,y<nx->jB nv0 y->cC H y=cC H0 y) (fun σ=>l.length - σ.1) (0,nv0) cJ ⟨Nat.zero_le _,cZ,by simp[oe], ?_,fun _ _ h=>h,fun y hy _=>cM⟩ ?_
 ·rw[show a0++oe l (0:Nat)=a0 by simp[oe]]
  rcases ht0 with h|⟨b,d,h1,h2,h3⟩
  ·exact .inl h
  ·exact .inr ⟨b,d,h1,Nat.lt_of_lt_of_le h2 cZ,Eq.trans cM h3⟩
 rintro⟨i,nv⟩ H n ⟨hi,hnn,hok,htold,hap,hkp⟩
 dsimp only at hi hok htold hap ⊢
 have hLl:(a0++oe l i).length=a0.length+i:=by rw[List.length_append,NS hi]
 by_cases hil:i<l.length
 ·have ed:=fun d=>PZ (l:=l) hil d
  have hdw:=hw _ (cQ default hil)
  have hnm:=EC (l.getD i default).name hdw.name
  rw[NW hil] at hok
  have hnx:a0++oe l (i+1)=(a0++oe l i)++[(l.getD i default).name]:=by rw[I9 hil,List.append_assoc]
  generalize hL:a0++oe l i=L at *
  generalize l.getD i default=dd at *
  have hsl:(strs L).length=L.length:=OS L
  rcases htold with⟨rfl,hL0⟩|⟨b,d,rfl,hbn,hb⟩
  ·have hL0l:L.length=0:=by rw[hL0];rfl
   repeat' (first|refine aQ ?_|exact eE|with_reducible refine aB ?_ ?_|((with_reducible refine Ask.mk ?_);first|exact cw|(exact hml)|(exact hsl)|exact cX|(intro h;simp_all[Decl.cells]<;>fail)|(simp_all[Decl.cells]<;>fail))|(apply aA;(·(first|exact ed _|exact cK)))|refine aK (hnm) ?_|refine aH ?_|((with_reducible refine aE ?_ ?_)<;>intro hc<;>try(exfalso;omega)))
   refine aI (fun σ:Nat×Bool=>[(0,cq l),(1, .sc (.slice none 0 0)),(2,bl w),(8,i64 i),(9,bl σ.2),(10,i64 σ.1)])
    (fun σ H2 n2=>σ.1<=L.length/\n<=n2/\σ.2=(fe dd.name&&(w||decide (dd.word=0))&& !gJ (L.take σ.1) dd.name)/\∀y,y<nx->jB nv0 y->cC H2 y=cC H0 y) (fun σ=>L.length - σ.1) (0,(if fe dd.name=true then(if w=true then true else decide (dd.word=0)) else false)) cJ ⟨Nat.zero_le _,cZ,by cases fe dd.name<;>cases w<;>simp[gJ],fun y hy h=>Eq.trans cM (hkp y hy h)⟩ ?_
   rintro⟨k,okv⟩ H2 n2 ⟨hk,hn2,hokv,hkp2⟩
   dsimp only at hk hokv ⊢
   by_cases hkl:k<L.length
   ·exfalso;omega
   ·have:k=L.length:=by omega
    subst this
    rw[List.take_length] at hokv
    rw[<-hokv] at hok
    cases okv with
    |false=>
     rw[if_neg (by decide)] at hok
     repeat' (first|refine aQ ?_|exact aC|with_reducible refine aB ?_ ?_|(apply aA;(·exact cK))|refine aH ?_|((with_reducible refine aE ?_ ?_)<;>intro hc<;>try(exfalso;omega)))
     first|refine⟨?_, ?_, ?_, ?_⟩|refine⟨⟨?_, ?_, ?_, ?_⟩⟩
     ·exact Nat.le_trans (Nat.le_trans hnn hn2) cZ
     ·exact fun y hy h=>Eq.trans cM (hkp2 y hy h)
     ·intro h;rw[<-hok] at h;cases h
     ·exact fun _=>rfl
    |true=>
     rw[if_pos rfl] at hok
     repeat' (first|refine aQ ?_|exact eE|with_reducible refine aB ?_ ?_|((with_reducible refine Ask.mk ?_);first|exact cw|(exact hml)|(exact hsl)|exact cX|(intro h;simp_all[Decl.cells]<;>fail)|(simp_all[Decl.cells]<;>fail))|(apply aA;(·(first|exact ed _|exact cK)))|refine aH ?_|((with_reducible refine aE ?_ ?_)<;>intro hc<;>try(exfalso;omega)))
     refine⟨(i+1, .sl (n2+13) ([dd.name]:List ByteArray).length),by dsimp only;omega,cJ,by dsimp only;omega,Nat.le_trans (Nat.le_trans hnn hn2) cZ,by dsimp only;rw[hnx];exact hok, ?_,fun y hy h=> ?_,fun y hy h=>Eq.trans cM (hkp2 y hy h)⟩
     ·rw[hnx,hL0];exact .inr ⟨n2+13,_,rfl,cZ,cE⟩
     ·intro b' n' e;cases e;omega
  ·repeat' (first|refine aQ ?_|exact eE|with_reducible refine aB ?_ ?_|((with_reducible refine Ask.mk ?_);first|exact cw|(exact hml)|(exact hsl)|exact cX|(intro h;simp_all[Decl.cells]<;>fail)|(simp_all[Decl.cells]<;>fail))|(apply aA;(·(first|exact ed _|exact cK)))|refine aK (hnm) ?_|refine aH ?_|((with_reducible refine aE ?_ ?_)<;>intro hc<;>try(exfalso;omega)))
   refine aI (fun σ:Nat×Bool=>[(0,cq l),(1, .sl b L.length),(2,bl w),(8,i64 i),(9,bl σ.2),(10,i64 σ.1)])
    (fun σ H2 n2=>σ.1<=L.length/\n<=n2/\σ.2=(fe dd.name&&(w||decide (dd.word=0))&& !gJ (L.take σ.1) dd.name)/\(∃d,cC H2 b=some (.row 9 1 d (strs L)))/\∀y,y<nx->jB nv0 y->cC H2 y=cC H0 y) (fun σ=>L.length - σ.1) (0,(if fe dd.name=true then(if w=true then true else decide (dd.word=0)) else false)) cJ ⟨Nat.zero_le _,cZ,by cases fe dd.name<;>cases w<;>simp[gJ],⟨_,cE⟩,fun y hy h=>Eq.trans cM (hkp y hy h)⟩ ?_
   rintro⟨k,okv⟩ H2 n2 ⟨hk,hn2,hokv,⟨d2,hb2⟩,hkp2⟩
   dsimp only at hk hokv ⊢
   by_cases hkl:k<L.length
   ·have es:=fun d=>UH (l:=L) hkl d
    have hstep:(if okv=true then !(L.getD k default==dd.name) else false)=(fe dd.name&&(w||decide (dd.word=0))&& !gJ (L.take (k+1)) dd.name):=by
     rw[I6 hkl,VK,hokv]
     have:decide (L.getD k default=dd.name)=decide (dd.name=L.getD k default):=decide_eq_decide.2 ⟨Eq.symm,Eq.symm⟩
     rw[this]
     cases fe dd.name<;>cases(w||decide (dd.word=0))<;>cases gJ (L.take k) dd.name<;>cases decide (dd.name=L.getD k default)<;>rfl
    repeat' (first|refine aQ ?_|exact eE|with_reducible refine aB ?_ ?_|((with_reducible refine Ask.mk ?_);first|exact cw|(exact hml)|(exact hsl)|exact cX|(intro h;simp_all[Decl.cells]<;>fail)|(simp_all[Decl.cells]<;>fail))|(apply aA;(·(first|exact ed _|exact es _|exact cK)))|refine aH ?_|((with_reducible refine aE ?_ ?_)<;>intro hc<;>try(exfalso;omega)))
    exact⟨(k+1,if okv=true then !(L.getD k default==dd.name) else false),by dsimp only;omega,cJ,by dsimp only;omega,by first|omega|exact cZ,hstep,⟨_,cE⟩,fun y hy h=>Eq.trans cM (hkp2 y hy h)⟩
   ·have:k=L.length:=by omega
    subst this
    rw[List.take_length] at hokv
    rw[<-hokv] at hok
    cases okv with
    |false=>
     rw[if_neg (by decide)] at hok
     repeat' (first|refine aQ ?_|exact aC|with_reducible refine aB ?_ ?_|(apply aA;(·exact cK))|refine aH ?_|((with_reducible refine aE ?_ ?_)<;>intro hc<;>try(exfalso;omega)))
     first|refine⟨?_, ?_, ?_, ?_⟩|refine⟨⟨?_, ?_, ?_, ?_⟩⟩
     ·exact Nat.le_trans (Nat.le_trans hnn hn2) cZ
     ·exact fun y hy h=>Eq.trans cM (hkp2 y hy h)
     ·intro h;rw[<-hok] at h;cases h
     ·exact fun _=>rfl
    |true=>
     rw[if_pos rfl] at hok
     repeat' (first|refine aQ ?_|exact eE|with_reducible refine aB ?_ ?_|((with_reducible refine Ask.mk ?_);first|exact cw|(exact hml)|(exact hsl)|exact cX|(intro h;simp_all[Decl.cells]<;>fail)|(simp_all[Decl.cells]<;>fail))|(apply aA;(·(first|exact ed _|exact cK)))|refine aH ?_|((with_reducible refine aE ?_ ?_)<;>intro hc<;>try(exfalso;omega)))
     refine⟨(i+1, .sl b (L++[dd.name]).length),by dsimp only;omega,by rw[List.length_append];exact cJ,by dsimp only;omega,Nat.le_trans (Nat.le_trans hnn hn2) cZ,by dsimp only;rw[hnx];exact hok, ?_,fun y hy h=>K4 (hap y hy h),fun y hy h=> ?_⟩
     ·rw[hnx];exact .inr ⟨b,_,rfl,Nat.lt_of_lt_of_le hbn (Nat.le_trans hn2 cZ),by rw[<-OR];exact cE⟩
     ·have hyb:=yg (hap y hy h)
      exact Eq.trans cM (hkp2 y hy h)
 ·have:i=l.length:=by omega
  subst this
  rw[List.drop_eq_nil_of_le (Nat.le_refl _),uY] at hok
  have hall:oe l l.length=l.map Decl.name:=by simp[oe]
  rw[hall] at htold
  rcases htold with⟨rfl,hL0⟩|⟨b,d,rfl,hbn,hb⟩
  ·repeat' (first|refine aQ ?_|exact eE|with_reducible refine aB ?_ ?_|((with_reducible refine Ask.mk ?_);first|exact cw|(exact hml)|exact cX)|(apply aA;(·exact cK))|refine aH ?_|((with_reducible refine aE ?_ ?_)<;>intro hc<;>try(exfalso;omega)))
   first|refine⟨?_, ?_, ?_, ?_⟩|refine⟨⟨?_, ?_, ?_, ?_⟩⟩
   ·exact Nat.le_trans hnn cZ
   ·exact fun y hy h=>Eq.trans cM (hkp y hy h)
   ·exact fun _=>⟨_,rfl, .inl ⟨rfl,hL0⟩,hap⟩
   ·intro h;rw[<-hok] at h;cases h
  ·repeat' (first|refine aQ ?_|exact eE|with_reducible refine aB ?_ ?_|((with_reducible refine Ask.mk ?_);first|exact cw|(exact hml)|exact cX)|(apply aA;(·exact cK))|refine aH ?_|((with_reducible refine aE ?_ ?_)<;>intro hc<;>try(exfalso;omega)))
   first|refine⟨?_, ?_, ?_, ?_⟩|refine⟨⟨?_, ?_, ?_, ?_⟩⟩
   ·exact Nat.le_trans hnn cZ
   ·exact fun y hy h=>Eq.trans cM (hkp y hy h)
   ·exact fun _=>⟨_,rfl, .inr ⟨b,d,rfl,Nat.lt_of_lt_of_le hbn cZ,cE⟩,hap⟩
   ·intro h;rw[<-hok] at h;cases h
end Go.Proofs.YtjopoheligmmoaaGreatDoor
namespace Go.dA
open Go.RowKit
theorem Rt.wW {fr:Fr} {H:Hp} {nx:Nat} (t b len:Nat) {e:TypeId} {sz:Nat} {d:AV} {es:List AV} (h:cu fr t= .sl b len) (hb:cC H b=some (.row e sz d es)) (hl:es.length=len):Rt fr H nx ((t, .im sz .any es)::fr) ((b,none)::H) nx:=by
 have hw:=Wk.TO (r:= .sl b len) (H:=H) (nx:=nx) [(b,some (.row e sz d es))] 1 (fun x q hq=>by
  by_cases hx:x=b
  ·subst hx;rw[cx] at hq;rw[hb];exact hq
  ·rw[cc hx] at hq;cases hq)
 rw[pU (cx _ _ _) hl,qQ,mR,wQ] at hw
 exact Rt.slot t h hw
theorem Rt.V1 {fr:Fr} {H:Hp} {nx:Nat} (t x len lo n:Nat) {e:TypeId} {sz:Nat} {d:AV} {l es:List AV} (h:cu fr t= .sv x len lo n) (h3:cC H x=some (.row e sz d l)) (hl:l.length=len) (hn:lo+n<=len) (he:(l.drop lo).take n=es) (hxt:e∉XT:=by decide):
 Rt fr H nx ((t, .im sz .any es)::(t, .sl nx n)::fr) ((nx,none)::(nx,some (.row e sz .any es))::(x,none)::H) (nx+1):=by
 subst he
 exact(Rt.part t h h3 hl hn hxt).trans (Rt.wW t nx n (by simp[cu]) (cx _ _ _) (by simp;omega))
end Go.dA
namespace Go.Proofs.YtjopoheligmmoaaGreatDoor
open Go Go.dA Go.Proofs
set_option linter.unusedSimpArgs false
set_option linter.unusedVariables false
theorem mc (l m:List Int) (hl:l.length * 8<=140737488351232) (hm:m.length * 8<=140737488351232):Pure Tryz.prog 44 [eP l,eP m] (fun r=>r=bl (decide (l=m))):=by
 refine aG YL rfl ?_
 unfold eP
 repeat' (first|refine aQ ?_|exact aC|with_reducible refine aB ?_ ?_|(apply aA;(·exact cK))|refine aH ?_|((with_reducible refine aE ?_ ?_)<;>intro hc<;>try(exfalso;omega)))
 ·refine dw (Eq.symm ?_)
  exact decide_eq_false fun e=>hc (by rw[e])
 ·have hlm:l.length=m.length:=by omega
  refine aI (fun i:Nat=>[(0,eP l),(1,eP m),(5,i64 i)])
   (fun i H n=>i<=l.length/\∀j,j<i->l.getD j 0=m.getD j 0) (fun i=>l.length - i) 0 cJ ⟨Nat.zero_le _,fun _ h=>by omega⟩ ?_
  unfold eP
  rintro i H n ⟨hi,hall⟩
  by_cases hil:i<l.length
  ·have e1:=lg (l:=l) hil
   have e2:=lg (l:=m) (i:=i) (by omega)
   repeat' (first|refine aQ ?_|exact aC|with_reducible refine aB ?_ ?_|(apply aA;(·(first|exact e1 _|exact e2 _|exact cK)))|refine aH ?_|((with_reducible refine aE ?_ ?_)<;>intro hc<;>try(exfalso;omega)))
   ·refine dw (Eq.symm ?_)
    exact decide_eq_false fun e=>hc (by rw[e])
   ·refine⟨i+1,by omega,cJ,by omega,fun j hj=> ?_⟩
    by_cases hji:j=i
    ·subst hji;exact hc
    ·exact hall j (by omega)
  ·have:i=l.length:=by omega
   subst this
   repeat' (first|refine aQ ?_|exact aC|with_reducible refine aB ?_ ?_|(apply aA;(·exact cK))|refine aH ?_|((with_reducible refine aE ?_ ?_)<;>intro hc<;>try(exfalso;omega)))
   refine dw (Eq.symm ?_)
   refine decide_eq_true (List.ext_getElem hlm fun j h1 h2=> ?_)
   have:=hall j h1
   simpa[List.getD,h1,h2] using this
set_option maxRecDepth 8000 in
set_option maxHeartbeats 8000000 in
theorem D8 (g:cG) (hg:g.Wf) (hw:Whole g):cT Tryz.prog 78 [g.av] [] 0 (fun r H n=>(∃a,r= .dQ [.sc (.slice none 0 0),i64 a]/\dc g=([],a))\/∃b d L,r= .dQ [.sl b L.length,i64 (-1)]/\dc g=(L,-1)/\cC H b=some (.row 31 1 d (L.map eP))):=by
 have hl:=hg.len
 have hl0:=hw.1
 have hl1:=hw.2.1
 have hrep:∀d,(List.replicate (((List.map Node.av g.nodes).length:Nat):Int).toNat (hP false [Value.bool false])).getD (Int.toNat 0) d=bl false:=fun d=>by
  rw[Int.toNat_natCast,show Int.toNat 0=0 from rfl,List.length_map,List.getD,List.getElem?_replicate,if_pos (by omega)];rfl
 refine aM aAb rfl ?_
 repeat' (first|refine aQ ?_|exact eE|with_reducible refine aB ?_ ?_|((with_reducible refine Ask.mk ?_);first|exact cw|exact cX|(intro h;simp_all[cG.cells]<;>fail)|(simp_all[cG.cells]<;>fail))|(apply aA;(·(first|exact hrep _|exact cK)))|refine aH ?_|((with_reducible refine aE ?_ ?_)<;>intro hc<;>try(exfalso;omega)))
 simp only[List.length_map,Int.toNat_natCast]
 have hs11:((sM g,0).1:HS).found.map bl=(List.replicate g.nodes.length (bl false)).set 0 (bl true):=by simp[sM,List.map_set]
 refine ao (fun s:HS×Nat=>[(1, .pt 0 1 0 0),(4, .sl 6 g.nodes.length),(5, .sl 11 g.nodes.length),(6, .sl 16 s.1.todo.length),(7,i64 s.2)])
  (fun s H n=>19<=n/\(∃d,cC H 0=some (.row 60 4 d [g.av]))/\(∃d,cC H 6=some (.row 31 1 d (s.1.cI.map eP)))/\(∃d,cC H 11=some (.row 4 1 d (s.1.found.map bl)))/\(∃d,cC H 16=some (.row 3 1 d (s.1.todo.map i64)))/\HI g s.1 s.2/\s.2<=g.nodes.length/\(∀i,(s.1.cI.getD i []).length<=s.2)/\ff g (g.nodes.length+1 - s.2) s.1 s.2=dc g)
  (fun s=>g.nodes.length+1 - s.2) (sM g,0) cJ ⟨_,_,Wk.UO (b:=6) (e:=31) (sz:=1) (es:=List.replicate g.nodes.length (.sc (.slice none 0 0))) (d:= .sc (.slice none 0 0)) .any cE (es2:=(sM g).cI.map eP) (by simp[sM]) (fun c c2 _ _=> ?_),cZ,⟨_,cE⟩,⟨_,cE⟩,⟨_,by rw[hs11];exact cE⟩,⟨_,cE⟩,HI.start hw,Nat.zero_le _, ?_,rfl⟩ ?_
 ·simp only[sM,List.map_replicate]
  exact dZ.rep (dY.ja c c2 1 .any) _
 ·intro i
  simp only[sM,List.getD,List.getElem?_replicate];split<;>exact Nat.zero_le _
 rintro⟨s,k⟩ H n ⟨hn,⟨d0,r0⟩,⟨d6,r6⟩,⟨d11,r11⟩,⟨d16,r16⟩,hI,hkl,hlen,hrun⟩
 dsimp only at r6 r11 r16 hI hkl hlen hrun ⊢
 have hct:=hI.count
 by_cases hk:k<s.todo.length
 ·obtain⟨x0,x1,x2⟩:=hI.inr _ (cQ (0:Int) hk)
  have hll:=hI.lh
  have hcnt:=hI.count
  have hlm:(s.cI.map eP).length=g.nodes.length:=by simp[hll]
  have htm:(s.todo.map i64).length=s.todo.length:=by simp
  have e1:=fun d=>zk hk d
  have e2:=fun d=>j5 (l:=s.cI) (i:=s.todo.getD k 0) (by rw[hll];exact x1) d
  have hlk:=hlen (s.todo.getD k 0).toNat
  rw[show g.nodes.length+1 - k=(g.nodes.length - k)+1 by omega,qO hk] at hrun
  have hnx:=fun now s'=>hI.next hw hk (now:=now) (s':=s')
  unfold HS.l at hrun hnx
  generalize hx:s.todo.getD k 0=x at *
  have hf:=ox (g.nd x.toNat)
  unfold eP at hf
  generalize hl0:s.cI.getD x.toNat []=l at *
  have hfl:=F2 (g.nd x.toNat)
  have hil:(l.map i64).length=l.length:=by simp
  by_cases h5:(g.nd x.toNat).kind=5
  ·have hnow:dM (g.nd x.toNat) l=some (l++[(g.nd x.toNat).cV]):=by unfold dM;rw[if_pos h5]
   have hnl:(l++[(g.nd x.toNat).cV]).length<=k+1:=by rw[List.length_append];exact Nat.succ_le_succ hlk
   rw[hnow] at hrun
   dsimp only at hrun
   repeat' (first|refine aQ ?_|exact eE|with_reducible refine aB ?_ ?_|((with_reducible refine Ask.mk ?_);first|exact cw|(exact hlm)|(exact htm)|(exact hil)|(refine jZ (m:=1) rfl ?_;simp only[List.length_map];omega)|exact cX|(intro h;simp_all[cG.cells,Node.cells]<;>fail)|(simp_all[cG.cells,Node.cells]<;>fail))|(apply aA;(·(first|exact fx x1 _|exact e1 _|exact e2 _|exact cK)))|refine aK (hf) ?_|(simp only[h5])|refine aH ?_|((with_reducible refine aE ?_ ?_)<;>intro hc<;>try(exfalso;omega)))
   obtain⟨nw,hnw⟩:∃nw,nw=l++[(g.nd x.toNat).cV]:=⟨_,rfl⟩
   rw[<-hnw] at hnow hnl hrun
   refine aV (fun q:HS×Nat=>[(1, .pt 0 1 0 0),(4, .sl 6 g.nodes.length),(5, .sl 11 g.nodes.length),(6, .sl 16 q.1.todo.length),(7,i64 k),(9, .im 1 .any ((nw).map i64)),(10, .im 1 .any ((g.nd x.toNat).gF.map i64)),(11,i64 q.2)])
    (fun q H2 n2=>q.2<=(g.nd x.toNat).gF.length/\n+15<=n2/\(∃d,cC H2 0=some (.row 60 4 d [g.av]))/\(∃d,cC H2 6=some (.row 31 1 d (q.1.cI.map eP)))/\(∃d,cC H2 11=some (.row 4 1 d (q.1.found.map bl)))/\(∃d,cC H2 16=some (.row 3 1 d (q.1.todo.map i64)))/\q.1.cI.length=g.nodes.length/\q.1.found.length=g.nodes.length/\q.1.todo.length+q.1.found.count false=g.nodes.length/\(∀i,(q.1.cI.getD i []).length<=k+1)/\dV (nw) ((g.nd x.toNat).gF.drop q.2) q.1=dV (nw) (g.nd x.toNat).gF s)
    (fun q=>(g.nd x.toNat).gF.length - q.2) (s,0) ⟨_,_,_,Rt.wW 9 (n+14) (0+(l.map i64).length+1) (e:=3) (sz:=1) (es:=nw.map i64) rfl (by rw[hnw,<-gH];exact cE) (by rw[hnw];simp),cJ,Nat.zero_le _,cZ,⟨_,cE⟩,⟨_,cE⟩,⟨_,cE⟩,⟨_,cE⟩,hI.lh,hI.od,hI.count,fun i=>Nat.le_succ_of_le (hlen i),rfl⟩ ?_
   clear r0 r6 r11 r16
   rintro⟨⟨lks,fnds,tds⟩,j⟩ H2 n2 ⟨hj,hn2,⟨d02,r0⟩,⟨d62,r6⟩,⟨d112,r11⟩,⟨d162,r16⟩,hll2,hfl2,hct2,hlen2,hto⟩
   dsimp only at hj hn2 r6 r11 r16 hll2 hfl2 hct2 hlen2 hto ⊢
   by_cases hjl:j<(g.nd x.toNat).gF.length
   ·have hm:=cQ (0:Int) hjl
    obtain⟨k0,k1⟩:=(hw.2.2 x.toNat x1).2.2 _ hm
    have e3:=fun d=>gw (l:=(g.nd x.toNat).gF) hjl d
    rw[fw _ _ _ hjl] at hto
    generalize hy:(g.nd x.toNat).gF.getD j 0=y at *
    have hl2m:(lks.map eP).length=g.nodes.length:=by simp[hll2]
    have hf2m:(fnds.map bl).length=g.nodes.length:=by simp[hfl2]
    have e4:=fun d=>j5 (l:=lks) (i:=y) (by rw[hll2];exact k1) d
    have e5:=fun d=>px (l:=fnds) (k:=y) d (by rw[hfl2];exact k1)
    have hsm:=mc (lks.getD y.toNat []) (nw) (by have:=hlen2 y.toNat;omega) (by omega)
    unfold eP at hsm
    cases hfd:HS.f ⟨lks,fnds,tds⟩ y with
    |true=>
     rw[if_neg (by rw[hfd];decide)] at hto
     rw[show lM fnds y=true from hfd] at e5
     by_cases hq:lks.getD y.toNat []=(nw)
     ·have hq2:HS.l ⟨lks,fnds,tds⟩ y=(nw):=hq
      rw[if_pos hq2] at hto
      rw[decide_eq_true hq] at hsm
      repeat' (first|refine aQ ?_|exact eE|with_reducible refine aB ?_ ?_|((with_reducible refine Ask.mk ?_);first|exact cw|(exact hl2m)|(exact hf2m)|exact cX)|(apply aA;(·(first|exact e3 _|exact e4 _|exact e5 _|exact cK)))|refine aK (hsm) ?_|refine aH ?_|((with_reducible refine aE ?_ ?_)<;>intro hc<;>try(exfalso;omega)))
      exact⟨(⟨lks,fnds,tds⟩,j+1),by dsimp only;omega,_,_,_,Rt.refl _ _ _,cJ,by dsimp only;omega,cZ,⟨_,cE⟩,⟨_,cE⟩,⟨_,cE⟩,⟨_,cE⟩,hll2,hfl2,hct2,hlen2,hto⟩
     ·have hq2:¬HS.l ⟨lks,fnds,tds⟩ y=(nw):=hq
      rw[if_neg hq2] at hto
      rw[decide_eq_false hq] at hsm
      repeat' (first|refine aQ ?_|exact eE|with_reducible refine aB ?_ ?_|((with_reducible refine Ask.mk ?_);first|exact cw|(exact hl2m)|(exact hf2m)|exact cX)|(apply aA;(·(first|exact e3 _|exact e4 _|exact e5 _|exact cK)))|refine aK (hsm) ?_|refine aH ?_|((with_reducible refine aE ?_ ?_)<;>intro hc<;>try(exfalso;omega)))
      exact⟨.inl ⟨y,rfl,by rw[<-hrun,<-hto]⟩⟩
    |false=>
     rw[if_pos hfd] at hto
     rw[show lM fnds y=false from hfd] at e5
     have hcts:=count_set (l:=fnds) (i:=y.toNat) (by rw[hfl2];exact k1) hfd
     repeat' (first|refine aQ ?_|exact eE|with_reducible refine aB ?_ ?_|((with_reducible refine Ask.mk ?_);first|exact cw|(exact hl2m)|(exact hf2m)|exact cX)|(apply aA;(·(first|exact e3 _|exact e4 _|exact e5 _|exact cK)))|refine aH ?_|((with_reducible refine aE ?_ ?_)<;>intro hc<;>try(exfalso;omega)))
     refine⟨(⟨lks.set y.toNat (nw),fnds.set y.toNat true,tds++[y]⟩,j+1),by dsimp only;omega,_,_,_,Rt.refl _ _ _,cJ,by dsimp only;omega,cZ,⟨_,cE⟩,⟨_,by dsimp only;rw[<-k7];exact cE⟩,⟨_,by dsimp only;rw[<-nK];exact cE⟩,⟨_,by dsimp only;rw[<-gH];exact cE⟩,by simp[hll2],by simp[hfl2], ?_, ?_,hto⟩
     ·simp only[List.length_append,List.length_cons,List.length_nil];omega
     ·intro i
      rw[eO]
      split
      ·exact hnl
      ·exact hlen2 i
   ·have:j=(g.nd x.toNat).gF.length:=by omega
    subst this
    rw[List.drop_eq_nil_of_le (Nat.le_refl _),dV] at hto
    have hnx2:=hnx _ _ hnow hto.symm
    repeat' (first|refine aQ ?_|exact aC|with_reducible refine aB ?_ ?_|(apply aA;(·exact cK))|refine aH ?_|((with_reducible refine aE ?_ ?_)<;>intro hc<;>try(exfalso;omega)))
    refine⟨(⟨lks,fnds,tds⟩,k+1),by dsimp only;omega,cJ,⟨_,_,Wk.refl _ _ _,cZ,⟨_,cE⟩,⟨_,cE⟩,⟨_,cE⟩,⟨_,cE⟩,hnx2,by dsimp only;omega,hlen2, ?_⟩⟩
    rw[<-hrun,<-hto]
    dsimp only
    congr 1
    omega
  ·by_cases h6:(g.nd x.toNat).kind=6
   ·rcases List.eq_nil_or_concat l with rfl|⟨a,y,rfl⟩
    ·have hnow:dM (g.nd x.toNat) []=none:=by unfold dM;rw[if_neg h5,if_pos h6,if_neg (fun h=>h.1 rfl)]
     rw[hnow] at hrun
     dsimp only at hrun
     repeat' (first|refine aQ ?_|exact eE|with_reducible refine aB ?_ ?_|((with_reducible refine Ask.mk ?_);first|exact cw|(exact hlm)|(exact htm)|(exact hil)|(refine jZ (m:=1) rfl ?_;simp only[List.length_map];omega)|exact cX|(intro h;simp_all[cG.cells,Node.cells]<;>fail)|(simp_all[cG.cells,Node.cells]<;>fail))|(apply aA;(·(first|exact fx x1 _|exact e1 _|exact e2 _|exact cK)))|refine aK (hf) ?_|(simp only[h6])|refine aH ?_|((with_reducible refine aE ?_ ?_)<;>intro hc<;>try(exfalso;omega)))
     exact⟨.inl ⟨x,rfl,hrun.symm⟩⟩
    ·rw[List.concat_eq_append] at *
     have hla:(a++[y]).length=a.length+1:=by simp
     have hml:((a++[y]).map i64).length=a.length+1:=by simp
     have e5:∀d,((a++[y]).map i64).getD (((a.length+1:Nat):Int) - 1).toNat d=i64 y:=fun d=>by
      rw[show(((a.length+1:Nat):Int) - 1).toNat=a.length by omega,List.map_append]
      simp[List.getD]
     have hm0:0+(List.map i64 (a++[y])).length=a.length+1:=by simp
     by_cases hy6:y=(g.nd x.toNat).cV
     ·subst hy6
      have hnow:dM (g.nd x.toNat) (a++[(g.nd x.toNat).cV])=some a:=by unfold dM;rw[if_neg h5,if_pos h6,if_pos ⟨by simp,by simp⟩,List.dropLast_concat]
      have hnl:a.length<=k+1:=by omega
      have htk:(((a++[(g.nd x.toNat).cV]).map i64).drop 0).take a.length=a.map i64:=by simp
      rw[hnow] at hrun
      dsimp only at hrun
      repeat' (first|refine aQ ?_|exact eE|with_reducible refine aB ?_ ?_|((with_reducible refine Ask.mk ?_);first|exact cw|(exact hlm)|(exact htm)|(exact hil)|(refine jZ (m:=1) rfl ?_;simp only[List.length_map];omega)|exact cX|(intro h;simp_all[cG.cells,Node.cells]<;>fail)|(simp_all[cG.cells,Node.cells]<;>fail))|(apply aA;(·(first|exact fx x1 _|exact e1 _|exact e2 _|exact e5 _|exact cK)))|refine aK (hf) ?_|(simp only[h6])|(simp only[hm0])|((with_reducible apply aZ);(·exact yG (es:=List.map i64 (a++[(g.nd x.toNat).cV])) cE hml vF vF SS))|refine aH ?_|((with_reducible refine aE ?_ ?_)<;>intro hc<;>try(exfalso;omega)))
      ·exact absurd hc (by simp;omega)
      refine aV (fun q:HS×Nat=>[(1, .pt 0 1 0 0),(4, .sl 6 g.nodes.length),(5, .sl 11 g.nodes.length),(6, .sl 16 q.1.todo.length),(7,i64 k),(9, .im 1 .any ((a).map i64)),(10, .im 1 .any ((g.nd x.toNat).gF.map i64)),(11,i64 q.2)])
       (fun q H2 n2=>q.2<=(g.nd x.toNat).gF.length/\n+15<=n2/\(∃d,cC H2 0=some (.row 60 4 d [g.av]))/\(∃d,cC H2 6=some (.row 31 1 d (q.1.cI.map eP)))/\(∃d,cC H2 11=some (.row 4 1 d (q.1.found.map bl)))/\(∃d,cC H2 16=some (.row 3 1 d (q.1.todo.map i64)))/\q.1.cI.length=g.nodes.length/\q.1.found.length=g.nodes.length/\q.1.todo.length+q.1.found.count false=g.nodes.length/\(∀i,(q.1.cI.getD i []).length<=k+1)/\dV (a) ((g.nd x.toNat).gF.drop q.2) q.1=dV (a) (g.nd x.toNat).gF s)
       (fun q=>(g.nd x.toNat).gF.length - q.2) (s,0) ⟨_,_,_,Rt.V1 9 (n+14) (a.length+1) 0 (a.length - 0) (e:=3) (sz:=1) (l:=(a++[(g.nd x.toNat).cV]).map i64) rfl cE hml (by omega) (by first|(rw[Nat.sub_zero];exact htk)|rw[Nat.sub_zero]),cJ,Nat.zero_le _,cZ,⟨_,cE⟩,⟨_,cE⟩,⟨_,cE⟩,⟨_,cE⟩,hI.lh,hI.od,hI.count,fun i=>Nat.le_succ_of_le (hlen i),rfl⟩ ?_
      clear r0 r6 r11 r16
      rintro⟨⟨lks,fnds,tds⟩,j⟩ H2 n2 ⟨hj,hn2,⟨d02,r0⟩,⟨d62,r6⟩,⟨d112,r11⟩,⟨d162,r16⟩,hll2,hfl2,hct2,hlen2,hto⟩
      dsimp only at hj hn2 r6 r11 r16 hll2 hfl2 hct2 hlen2 hto ⊢
      by_cases hjl:j<(g.nd x.toNat).gF.length
      ·have hm:=cQ (0:Int) hjl
       obtain⟨k0,k1⟩:=(hw.2.2 x.toNat x1).2.2 _ hm
       have e3:=fun d=>gw (l:=(g.nd x.toNat).gF) hjl d
       rw[fw _ _ _ hjl] at hto
       generalize hy:(g.nd x.toNat).gF.getD j 0=y at *
       have hl2m:(lks.map eP).length=g.nodes.length:=by simp[hll2]
       have hf2m:(fnds.map bl).length=g.nodes.length:=by simp[hfl2]
       have e4:=fun d=>j5 (l:=lks) (i:=y) (by rw[hll2];exact k1) d
       have e5:=fun d=>px (l:=fnds) (k:=y) d (by rw[hfl2];exact k1)
       have hsm:=mc (lks.getD y.toNat []) (a) (by have:=hlen2 y.toNat;omega) (by omega)
       unfold eP at hsm
       cases hfd:HS.f ⟨lks,fnds,tds⟩ y with
       |true=>
        rw[if_neg (by rw[hfd];decide)] at hto
        rw[show lM fnds y=true from hfd] at e5
        by_cases hq:lks.getD y.toNat []=(a)
        ·have hq2:HS.l ⟨lks,fnds,tds⟩ y=(a):=hq
         rw[if_pos hq2] at hto
         rw[decide_eq_true hq] at hsm
         repeat' (first|refine aQ ?_|exact eE|with_reducible refine aB ?_ ?_|((with_reducible refine Ask.mk ?_);first|exact cw|(exact hl2m)|(exact hf2m)|exact cX)|(apply aA;(·(first|exact e3 _|exact e4 _|exact e5 _|exact cK)))|refine aK (hsm) ?_|refine aH ?_|((with_reducible refine aE ?_ ?_)<;>intro hc<;>try(exfalso;omega)))
         exact⟨(⟨lks,fnds,tds⟩,j+1),by dsimp only;omega,_,_,_,Rt.refl _ _ _,cJ,by dsimp only;omega,cZ,⟨_,cE⟩,⟨_,cE⟩,⟨_,cE⟩,⟨_,cE⟩,hll2,hfl2,hct2,hlen2,hto⟩
        ·have hq2:¬HS.l ⟨lks,fnds,tds⟩ y=(a):=hq
         rw[if_neg hq2] at hto
         rw[decide_eq_false hq] at hsm
         repeat' (first|refine aQ ?_|exact eE|with_reducible refine aB ?_ ?_|((with_reducible refine Ask.mk ?_);first|exact cw|(exact hl2m)|(exact hf2m)|exact cX)|(apply aA;(·(first|exact e3 _|exact e4 _|exact e5 _|exact cK)))|refine aK (hsm) ?_|refine aH ?_|((with_reducible refine aE ?_ ?_)<;>intro hc<;>try(exfalso;omega)))
         exact⟨.inl ⟨y,rfl,by rw[<-hrun,<-hto]⟩⟩
       |false=>
        rw[if_pos hfd] at hto
        rw[show lM fnds y=false from hfd] at e5
        have hcts:=count_set (l:=fnds) (i:=y.toNat) (by rw[hfl2];exact k1) hfd
        repeat' (first|refine aQ ?_|exact eE|with_reducible refine aB ?_ ?_|((with_reducible refine Ask.mk ?_);first|exact cw|(exact hl2m)|(exact hf2m)|exact cX)|(apply aA;(·(first|exact e3 _|exact e4 _|exact e5 _|exact cK)))|refine aH ?_|((with_reducible refine aE ?_ ?_)<;>intro hc<;>try(exfalso;omega)))
        refine⟨(⟨lks.set y.toNat (a),fnds.set y.toNat true,tds++[y]⟩,j+1),by dsimp only;omega,_,_,_,Rt.refl _ _ _,cJ,by dsimp only;omega,cZ,⟨_,cE⟩,⟨_,by dsimp only;rw[<-k7];exact cE⟩,⟨_,by dsimp only;rw[<-nK];exact cE⟩,⟨_,by dsimp only;rw[<-gH];exact cE⟩,by simp[hll2],by simp[hfl2], ?_, ?_,hto⟩
        ·simp only[List.length_append,List.length_cons,List.length_nil];omega
        ·intro i
         rw[eO]
         split
         ·exact hnl
         ·exact hlen2 i
      ·have:j=(g.nd x.toNat).gF.length:=by omega
       subst this
       rw[List.drop_eq_nil_of_le (Nat.le_refl _),dV] at hto
       have hnx2:=hnx _ _ hnow hto.symm
       repeat' (first|refine aQ ?_|exact aC|with_reducible refine aB ?_ ?_|(apply aA;(·exact cK))|refine aH ?_|((with_reducible refine aE ?_ ?_)<;>intro hc<;>try(exfalso;omega)))
       refine⟨(⟨lks,fnds,tds⟩,k+1),by dsimp only;omega,cJ,⟨_,_,Wk.refl _ _ _,cZ,⟨_,cE⟩,⟨_,cE⟩,⟨_,cE⟩,⟨_,cE⟩,hnx2,by dsimp only;omega,hlen2, ?_⟩⟩
       rw[<-hrun,<-hto]
       dsimp only
       congr 1
       omega
     ·have hnow:dM (g.nd x.toNat) (a++[y])=none:=by unfold dM;rw[if_neg h5,if_pos h6,if_neg (fun h=>hy6 (by simpa using h.2))]
      have hy7:¬y=(g.nodes.getD x.toNat default).cV:=hy6
      rw[hnow] at hrun
      dsimp only at hrun
      repeat' (first|refine aQ ?_|exact eE|with_reducible refine aB ?_ ?_|((with_reducible refine Ask.mk ?_);first|exact cw|(exact hlm)|(exact htm)|(exact hil)|(refine jZ (m:=1) rfl ?_;simp only[List.length_map];omega)|exact cX|(intro h;simp_all[cG.cells,Node.cells]<;>fail)|(simp_all[cG.cells,Node.cells]<;>fail))|(apply aA;(·(first|exact fx x1 _|exact e1 _|exact e2 _|exact e5 _|exact cK)))|refine aK (hf) ?_|(simp only[h6])|(simp only[hm0])|refine aH ?_|((with_reducible refine aE ?_ ?_)<;>intro hc<;>try(exfalso;omega)))
      all_goals exact⟨.inl ⟨x,rfl,hrun.symm⟩⟩
   ·by_cases h9:(g.nd x.toNat).kind=9/\l≠[]
    ·have hnow:dM (g.nd x.toNat) l=none:=by unfold dM;rw[if_neg h5,if_neg h6,if_pos h9.1,if_neg h9.2]
     have hlp:0<l.length:=List.length_pos_iff.2 h9.2
     have h91:=h9.1
     rw[hnow] at hrun
     dsimp only at hrun
     repeat' (first|refine aQ ?_|exact eE|with_reducible refine aB ?_ ?_|((with_reducible refine Ask.mk ?_);first|exact cw|(exact hlm)|(exact htm)|(exact hil)|(refine jZ (m:=1) rfl ?_;simp only[List.length_map];omega)|exact cX|(intro h;simp_all[cG.cells,Node.cells]<;>fail)|(simp_all[cG.cells,Node.cells]<;>fail))|(apply aA;(·(first|exact fx x1 _|exact e1 _|exact e2 _|exact cK)))|refine aK (hf) ?_|(simp only[h91])|refine aH ?_|((with_reducible refine aE ?_ ?_)<;>intro hc<;>try(exfalso;omega)))
     exact⟨.inl ⟨x,rfl,hrun.symm⟩⟩
    ·by_cases h91:(g.nd x.toNat).kind=9
     ·have hl0:l=[]:=Classical.byContradiction fun h=>h9 ⟨h91,h⟩
      subst hl0
      have hnow:dM (g.nd x.toNat) []=some []:=by unfold dM;rw[if_neg h5,if_neg h6,if_pos h91,if_pos rfl]
      have hnl:([]:List Int).length<=k+1:=Nat.zero_le _
      rw[hnow] at hrun
      dsimp only at hrun
      repeat' (first|refine aQ ?_|exact eE|with_reducible refine aB ?_ ?_|((with_reducible refine Ask.mk ?_);first|exact cw|(exact hlm)|(exact htm)|(exact hil)|(refine jZ (m:=1) rfl ?_;simp only[List.length_map];omega)|exact cX|(intro h;simp_all[cG.cells,Node.cells]<;>fail)|(simp_all[cG.cells,Node.cells]<;>fail))|(apply aA;(·(first|exact fx x1 _|exact e1 _|exact e2 _|exact cK)))|refine aK (hf) ?_|(simp only[h91])|refine aH ?_|((with_reducible refine aE ?_ ?_)<;>intro hc<;>try(exfalso;omega)))
      refine aV (fun q:HS×Nat=>[(1, .pt 0 1 0 0),(4, .sl 6 g.nodes.length),(5, .sl 11 g.nodes.length),(6, .sl 16 q.1.todo.length),(7,i64 k),(9, .im 1 .any (([]).map i64)),(10, .im 1 .any ((g.nd x.toNat).gF.map i64)),(11,i64 q.2)])
       (fun q H2 n2=>q.2<=(g.nd x.toNat).gF.length/\n+15<=n2/\(∃d,cC H2 0=some (.row 60 4 d [g.av]))/\(∃d,cC H2 6=some (.row 31 1 d (q.1.cI.map eP)))/\(∃d,cC H2 11=some (.row 4 1 d (q.1.found.map bl)))/\(∃d,cC H2 16=some (.row 3 1 d (q.1.todo.map i64)))/\q.1.cI.length=g.nodes.length/\q.1.found.length=g.nodes.length/\q.1.todo.length+q.1.found.count false=g.nodes.length/\(∀i,(q.1.cI.getD i []).length<=k+1)/\dV ([]) ((g.nd x.toNat).gF.drop q.2) q.1=dV ([]) (g.nd x.toNat).gF s)
       (fun q=>(g.nd x.toNat).gF.length - q.2) (s,0) ⟨_,_,_,Rt.wW 9 (n+14) (0) (e:=3) (sz:=1) (es:=([]:List Int).map i64) rfl cE (by simp),cJ,Nat.zero_le _,cZ,⟨_,cE⟩,⟨_,cE⟩,⟨_,cE⟩,⟨_,cE⟩,hI.lh,hI.od,hI.count,fun i=>Nat.le_succ_of_le (hlen i),rfl⟩ ?_
      clear r0 r6 r11 r16
      rintro⟨⟨lks,fnds,tds⟩,j⟩ H2 n2 ⟨hj,hn2,⟨d02,r0⟩,⟨d62,r6⟩,⟨d112,r11⟩,⟨d162,r16⟩,hll2,hfl2,hct2,hlen2,hto⟩
      dsimp only at hj hn2 r6 r11 r16 hll2 hfl2 hct2 hlen2 hto ⊢
      by_cases hjl:j<(g.nd x.toNat).gF.length
      ·have hm:=cQ (0:Int) hjl
       obtain⟨k0,k1⟩:=(hw.2.2 x.toNat x1).2.2 _ hm
       have e3:=fun d=>gw (l:=(g.nd x.toNat).gF) hjl d
       rw[fw _ _ _ hjl] at hto
       generalize hy:(g.nd x.toNat).gF.getD j 0=y at *
       have hl2m:(lks.map eP).length=g.nodes.length:=by simp[hll2]
       have hf2m:(fnds.map bl).length=g.nodes.length:=by simp[hfl2]
       have e4:=fun d=>j5 (l:=lks) (i:=y) (by rw[hll2];exact k1) d
       have e5:=fun d=>px (l:=fnds) (k:=y) d (by rw[hfl2];exact k1)
       have hsm:=mc (lks.getD y.toNat []) ([]) (by have:=hlen2 y.toNat;omega) (by omega)
       unfold eP at hsm
       cases hfd:HS.f ⟨lks,fnds,tds⟩ y with
       |true=>
        rw[if_neg (by rw[hfd];decide)] at hto
        rw[show lM fnds y=true from hfd] at e5
        by_cases hq:lks.getD y.toNat []=([])
        ·have hq2:HS.l ⟨lks,fnds,tds⟩ y=([]):=hq
         rw[if_pos hq2] at hto
         rw[decide_eq_true hq] at hsm
         repeat' (first|refine aQ ?_|exact eE|with_reducible refine aB ?_ ?_|((with_reducible refine Ask.mk ?_);first|exact cw|(exact hl2m)|(exact hf2m)|exact cX)|(apply aA;(·(first|exact e3 _|exact e4 _|exact e5 _|exact cK)))|refine aK (hsm) ?_|refine aH ?_|((with_reducible refine aE ?_ ?_)<;>intro hc<;>try(exfalso;omega)))
         exact⟨(⟨lks,fnds,tds⟩,j+1),by dsimp only;omega,_,_,_,Rt.refl _ _ _,cJ,by dsimp only;omega,cZ,⟨_,cE⟩,⟨_,cE⟩,⟨_,cE⟩,⟨_,cE⟩,hll2,hfl2,hct2,hlen2,hto⟩
        ·have hq2:¬HS.l ⟨lks,fnds,tds⟩ y=([]):=hq
         rw[if_neg hq2] at hto
         rw[decide_eq_false hq] at hsm
         repeat' (first|refine aQ ?_|exact eE|with_reducible refine aB ?_ ?_|((with_reducible refine Ask.mk ?_);first|exact cw|(exact hl2m)|(exact hf2m)|exact cX)|(apply aA;(·(first|exact e3 _|exact e4 _|exact e5 _|exact cK)))|refine aK (hsm) ?_|refine aH ?_|((with_reducible refine aE ?_ ?_)<;>intro hc<;>try(exfalso;omega)))
         exact⟨.inl ⟨y,rfl,by rw[<-hrun,<-hto]⟩⟩
       |false=>
        rw[if_pos hfd] at hto
        rw[show lM fnds y=false from hfd] at e5
        have hcts:=count_set (l:=fnds) (i:=y.toNat) (by rw[hfl2];exact k1) hfd
        repeat' (first|refine aQ ?_|exact eE|with_reducible refine aB ?_ ?_|((with_reducible refine Ask.mk ?_);first|exact cw|(exact hl2m)|(exact hf2m)|exact cX)|(apply aA;(·(first|exact e3 _|exact e4 _|exact e5 _|exact cK)))|refine aH ?_|((with_reducible refine aE ?_ ?_)<;>intro hc<;>try(exfalso;omega)))
        refine⟨(⟨lks.set y.toNat ([]),fnds.set y.toNat true,tds++[y]⟩,j+1),by dsimp only;omega,_,_,_,Rt.refl _ _ _,cJ,by dsimp only;omega,cZ,⟨_,cE⟩,⟨_,by dsimp only;rw[<-k7];exact cE⟩,⟨_,by dsimp only;rw[<-nK];exact cE⟩,⟨_,by dsimp only;rw[<-gH];exact cE⟩,by simp[hll2],by simp[hfl2], ?_, ?_,hto⟩
        ·simp only[List.length_append,List.length_cons,List.length_nil];omega
        ·intro i
         rw[eO]
         split
         ·exact hnl
         ·exact hlen2 i
      ·have:j=(g.nd x.toNat).gF.length:=by omega
       subst this
       rw[List.drop_eq_nil_of_le (Nat.le_refl _),dV] at hto
       have hnx2:=hnx _ _ hnow hto.symm
       repeat' (first|refine aQ ?_|exact aC|with_reducible refine aB ?_ ?_|(apply aA;(·exact cK))|refine aH ?_|((with_reducible refine aE ?_ ?_)<;>intro hc<;>try(exfalso;omega)))
       refine⟨(⟨lks,fnds,tds⟩,k+1),by dsimp only;omega,cJ,⟨_,_,Wk.refl _ _ _,cZ,⟨_,cE⟩,⟨_,cE⟩,⟨_,cE⟩,⟨_,cE⟩,hnx2,by dsimp only;omega,hlen2, ?_⟩⟩
       rw[<-hrun,<-hto]
       dsimp only
       congr 1
       omega
     ·have hnow:dM (g.nd x.toNat) l=some l:=by unfold dM;rw[if_neg h5,if_neg h6,if_neg h91]
      have hnl:l.length<=k+1:=by omega
      rw[hnow] at hrun
      dsimp only at hrun
      repeat' (first|refine aQ ?_|exact eE|with_reducible refine aB ?_ ?_|((with_reducible refine Ask.mk ?_);first|exact cw|(exact hlm)|(exact htm)|(exact hil)|(refine jZ (m:=1) rfl ?_;simp only[List.length_map];omega)|exact cX|(intro h;simp_all[cG.cells,Node.cells]<;>fail)|(simp_all[cG.cells,Node.cells]<;>fail))|(apply aA;(·(first|exact fx x1 _|exact e1 _|exact e2 _|exact cK)))|refine aK (hf) ?_|(simp only[h5])|(simp only[h6])|(simp only[h91])|refine aH ?_|((with_reducible refine aE ?_ ?_)<;>intro hc<;>try(exfalso;omega)))
      refine aV (fun q:HS×Nat=>[(1, .pt 0 1 0 0),(4, .sl 6 g.nodes.length),(5, .sl 11 g.nodes.length),(6, .sl 16 q.1.todo.length),(7,i64 k),(9, .im 1 .any ((l).map i64)),(10, .im 1 .any ((g.nd x.toNat).gF.map i64)),(11,i64 q.2)])
       (fun q H2 n2=>q.2<=(g.nd x.toNat).gF.length/\n+15<=n2/\(∃d,cC H2 0=some (.row 60 4 d [g.av]))/\(∃d,cC H2 6=some (.row 31 1 d (q.1.cI.map eP)))/\(∃d,cC H2 11=some (.row 4 1 d (q.1.found.map bl)))/\(∃d,cC H2 16=some (.row 3 1 d (q.1.todo.map i64)))/\q.1.cI.length=g.nodes.length/\q.1.found.length=g.nodes.length/\q.1.todo.length+q.1.found.count false=g.nodes.length/\(∀i,(q.1.cI.getD i []).length<=k+1)/\dV (l) ((g.nd x.toNat).gF.drop q.2) q.1=dV (l) (g.nd x.toNat).gF s)
       (fun q=>(g.nd x.toNat).gF.length - q.2) (s,0) ⟨_,_,_,Rt.wW 9 (n+14) (0+(l.map i64).length) (e:=3) (sz:=1) (es:=l.map i64) rfl cE (by simp),cJ,Nat.zero_le _,cZ,⟨_,cE⟩,⟨_,cE⟩,⟨_,cE⟩,⟨_,cE⟩,hI.lh,hI.od,hI.count,fun i=>Nat.le_succ_of_le (hlen i),rfl⟩ ?_
      clear r0 r6 r11 r16
      rintro⟨⟨lks,fnds,tds⟩,j⟩ H2 n2 ⟨hj,hn2,⟨d02,r0⟩,⟨d62,r6⟩,⟨d112,r11⟩,⟨d162,r16⟩,hll2,hfl2,hct2,hlen2,hto⟩
      dsimp only at hj hn2 r6 r11 r16 hll2 hfl2 hct2 hlen2 hto ⊢
      by_cases hjl:j<(g.nd x.toNat).gF.length
      ·have hm:=cQ (0:Int) hjl
       obtain⟨k0,k1⟩:=(hw.2.2 x.toNat x1).2.2 _ hm
       have e3:=fun d=>gw (l:=(g.nd x.toNat).gF) hjl d
       rw[fw _ _ _ hjl] at hto
       generalize hy:(g.nd x.toNat).gF.getD j 0=y at *
       have hl2m:(lks.map eP).length=g.nodes.length:=by simp[hll2]
       have hf2m:(fnds.map bl).length=g.nodes.length:=by simp[hfl2]
       have e4:=fun d=>j5 (l:=lks) (i:=y) (by rw[hll2];exact k1) d
       have e5:=fun d=>px (l:=fnds) (k:=y) d (by rw[hfl2];exact k1)
       have hsm:=mc (lks.getD y.toNat []) (l) (by have:=hlen2 y.toNat;omega) (by omega)
       unfold eP at hsm
       cases hfd:HS.f ⟨lks,fnds,tds⟩ y with
       |true=>
        rw[if_neg (by rw[hfd];decide)] at hto
        rw[show lM fnds y=true from hfd] at e5
        by_cases hq:lks.getD y.toNat []=(l)
        ·have hq2:HS.l ⟨lks,fnds,tds⟩ y=(l):=hq
         rw[if_pos hq2] at hto
         rw[decide_eq_true hq] at hsm
         repeat' (first|refine aQ ?_|exact eE|with_reducible refine aB ?_ ?_|((with_reducible refine Ask.mk ?_);first|exact cw|(exact hl2m)|(exact hf2m)|exact cX)|(apply aA;(·(first|exact e3 _|exact e4 _|exact e5 _|exact cK)))|refine aK (hsm) ?_|refine aH ?_|((with_reducible refine aE ?_ ?_)<;>intro hc<;>try(exfalso;omega)))
         exact⟨(⟨lks,fnds,tds⟩,j+1),by dsimp only;omega,_,_,_,Rt.refl _ _ _,cJ,by dsimp only;omega,cZ,⟨_,cE⟩,⟨_,cE⟩,⟨_,cE⟩,⟨_,cE⟩,hll2,hfl2,hct2,hlen2,hto⟩
        ·have hq2:¬HS.l ⟨lks,fnds,tds⟩ y=(l):=hq
         rw[if_neg hq2] at hto
         rw[decide_eq_false hq] at hsm
         repeat' (first|refine aQ ?_|exact eE|with_reducible refine aB ?_ ?_|((with_reducible refine Ask.mk ?_);first|exact cw|(exact hl2m)|(exact hf2m)|exact cX)|(apply aA;(·(first|exact e3 _|exact e4 _|exact e5 _|exact cK)))|refine aK (hsm) ?_|refine aH ?_|((with_reducible refine aE ?_ ?_)<;>intro hc<;>try(exfalso;omega)))
         exact⟨.inl ⟨y,rfl,by rw[<-hrun,<-hto]⟩⟩
       |false=>
        rw[if_pos hfd] at hto
        rw[show lM fnds y=false from hfd] at e5
        have hcts:=count_set (l:=fnds) (i:=y.toNat) (by rw[hfl2];exact k1) hfd
        repeat' (first|refine aQ ?_|exact eE|with_reducible refine aB ?_ ?_|((with_reducible refine Ask.mk ?_);first|exact cw|(exact hl2m)|(exact hf2m)|exact cX)|(apply aA;(·(first|exact e3 _|exact e4 _|exact e5 _|exact cK)))|refine aH ?_|((with_reducible refine aE ?_ ?_)<;>intro hc<;>try(exfalso;omega)))
        refine⟨(⟨lks.set y.toNat (l),fnds.set y.toNat true,tds++[y]⟩,j+1),by dsimp only;omega,_,_,_,Rt.refl _ _ _,cJ,by dsimp only;omega,cZ,⟨_,cE⟩,⟨_,by dsimp only;rw[<-k7];exact cE⟩,⟨_,by dsimp only;rw[<-nK];exact cE⟩,⟨_,by dsimp only;rw[<-gH];exact cE⟩,by simp[hll2],by simp[hfl2], ?_, ?_,hto⟩
        ·simp only[List.length_append,List.length_cons,List.length_nil];omega
        ·intro i
         rw[eO]
         split
         ·exact hnl
         ·exact hlen2 i
      ·have:j=(g.nd x.toNat).gF.length:=by omega
       subst this
       rw[List.drop_eq_nil_of_le (Nat.le_refl _),dV] at hto
       have hnx2:=hnx _ _ hnow hto.symm
       repeat' (first|refine aQ ?_|exact aC|with_reducible refine aB ?_ ?_|(apply aA;(·exact cK))|refine aH ?_|((with_reducible refine aE ?_ ?_)<;>intro hc<;>try(exfalso;omega)))
       refine⟨(⟨lks,fnds,tds⟩,k+1),by dsimp only;omega,cJ,⟨_,_,Wk.refl _ _ _,cZ,⟨_,cE⟩,⟨_,cE⟩,⟨_,cE⟩,⟨_,cE⟩,hnx2,by dsimp only;omega,hlen2, ?_⟩⟩
       rw[<-hrun,<-hto]
       dsimp only
       congr 1
       omega
 ·have hkt:s.todo.length<=k:=by omega
  have hrun2:dc g=(s.cI,-1):=by
   rw[<-hrun,show g.nodes.length+1 - k=(g.nodes.length - k)+1 by omega,ff,if_neg hk]
  repeat' (first|refine aQ ?_|exact aC|with_reducible refine aB ?_ ?_|(apply aA;(·exact cK))|refine aH ?_|((with_reducible refine aE ?_ ?_)<;>intro hc<;>try(exfalso;omega)))
  exact⟨.inr ⟨6,d6,s.cI,by rw[hI.lh],hrun2,cE⟩⟩
theorem uc (g:cG) (hg:g.Wf) (hw:Whole g):Pure Tryz.prog 78 [g.av] (fun r=>r=j4 (dc g)):=by
 have h:=D8 g hg hw
 have fL:∀L:List (List Int),cg 0 (L.map eP):=fun L=>(cL _ _).2 fun _ _=>by simp[eP,cP,cL]
 have fh:∀r,cP 0 (j4 r):=fun r=>by simp only[j4,cP,cg];exact⟨fL _,trivial,trivial⟩
 by_cases hc:(dc g).1=[]
 ·refine xx (u:= .dQ [.sc (.slice none 0 0),i64 (dc g).2]) (pure_or (h.mono ?_) (by simp[cP,cg]) (fh _)) (fh _) fun c=> ?_
  ·rintro r H n (⟨a,rfl,e⟩|⟨b,d,L,rfl,e,hb⟩)
   ·left;rw[e];exact dX _ (by simp[cP,cg])
   ·right
    rw[e]
    have e1:dA.df H 6 (.dQ [.sl b L.length,i64 (-1)])= .dQ [dA.df H 5 (.sl b L.length),i64 (-1)]:=by
     simp only[df,List.map_cons,List.map_nil]
    rw[e1,dN hb (by simp),cr _ (fL L)]
    rfl
  ·unfold j4
   rw[hc]
   intro v hv
   rw[VR] at hv ⊢
   obtain⟨vs,rfl,hv⟩:=hv
   refine⟨vs,rfl, ?_⟩
   rw[ct] at hv ⊢
   obtain⟨v1,vs1,e1,h1,h2⟩:=hv
   exact⟨v1,vs1,e1,dA.dY.ja c c 1 .any _ h1,h2⟩
 ·refine cz (h.mono ?_) (fh _)
  rintro r H n (⟨a,rfl,e⟩|⟨b,d,L,rfl,e,hb⟩)
  ·rw[e] at hc;exact absurd rfl hc
  ·rw[e]
   have e1:dA.df H 6 (.dQ [.sl b L.length,i64 (-1)])= .dQ [dA.df H 5 (.sl b L.length),i64 (-1)]:=by
    simp only[df,List.map_cons,List.map_nil]
   rw[e1,dN hb (by simp),cr _ (fL L)]
   rfl
theorem xp (acc:List ByteArray) (l:List Decl) (w:Bool):uY acc l w=(fA acc (l.map Decl.name)&&(w||l.all fun d=>decide (d.word=0))):=by
 induction l generalizing acc with
 |nil=>simp[uY,fA]
 |cons d r ih=>
  rw[uY,List.map_cons,fA,ih,List.all_cons]
  cases fe d.name<;>cases w<;>cases gJ acc d.name<;>cases decide (d.word=0)<;>cases fA (acc++[d.name]) (r.map Decl.name)<;>simp
theorem tE (acc a b:List ByteArray):fA acc (a++b)=(fA acc a&&fA (acc++a) b):=by
 induction a generalizing acc with
 |nil=>simp[fA]
 |cons s r ih=>
  rw[List.cons_append,fA,fA,ih,List.append_assoc,List.singleton_append]
  split<;>simp
def jr (u:cF):List Decl:=u.cD.map fun g=>⟨g.name,0,0⟩
theorem KA (u:cF):(jr u).map Decl.name=u.cD.map cG.name:=by simp[jr,List.map_map,Function.comp_def]
theorem kQ (u:cF):(jr u).length=u.cD.length:=by simp[jr]
theorem KB {u:cF} {t:Nat} (h:t<u.cD.length):(jr u).take (t+1)=(jr u).take t++[⟨(u.gr t).name,0,0⟩]:=by
 rw[List.take_succ_eq_append_getElem (by rw[kQ];exact h)]
 simp[jr,cF.gr,List.getD,h]
theorem T1 (u:cF) (h1:u.shared.length<=64) (h2:u.cI.length<=16) (h3:u.cD.length<=8) {L1 L2:List ByteArray}
 (e1:L1=if uY [] u.shared true=true then[]++u.shared.map Decl.name else[])
 (e2:L2=if uY L1 u.cI false=true then L1++u.cI.map Decl.name else[]):
 (uY [] u.shared true&&uY L1 u.cI false&&uY L2 (jr u) false)=fN u:=by
 unfold fN
 rw[decide_eq_true h1,decide_eq_true h2,decide_eq_true h3,dD,tE,tE]
 have ht:(jr u).all (fun d=>decide (d.word=0))=true:=by simp[jr]
 rw[xp L2,ht,KA,Bool.or_true,Bool.and_true]
 rw[xp []] at e1 ⊢
 rw[xp L1] at e2 ⊢
 simp only[Bool.true_or,Bool.and_true,List.nil_append,Bool.true_and,Bool.false_or] at e1 e2 ⊢
 cases ha:fA [] (u.shared.map Decl.name) with
 |false=>simp
 |true=>
  rw[ha,if_pos rfl] at e1
  subst e1
  cases hb:fA (u.shared.map Decl.name) (u.cI.map Decl.name) with
  |false=>simp
  |true=>
   rw[hb] at e2
   cases hc:u.cI.all (fun d=>decide (d.word=0)) with
   |false=>simp
   |true=>
    rw[hc,if_pos (by rfl)] at e2
    subst e2
    simp
theorem Wk.GO {a a2:AV} {l:List AV} {H H2:Hp} {nx nx2:Nat} (h:Wk a H nx a2 H2 nx2):Wk (.dQ (a::l)) H nx (.dQ (a2::l)) H2 nx2:=by
 intro w0 ρ U w M0 hU hS
 obtain⟨ρ2,U2,k1,k2,k3,k4⟩:=h w0 ρ U w M0 hU hS
 refine⟨ρ2,U2,k1,k2,k3,fun v hv=> ?_⟩
 rw[VR] at hv ⊢
 obtain⟨vs,rfl,hv⟩:=hv
 refine⟨vs,rfl, ?_⟩
 rw[ct] at hv ⊢
 obtain⟨v1,vs1,e1,h1,h2⟩:=hv
 exact⟨v1,vs1,e1,k4 _ h1,ct.cd k3 h2⟩
theorem yC (l:List Decl) (hl:l.length<=64) (hw:∀d∈l,d.Wf) (a0:List ByteArray) (ha:a0.length<=1000) (w:Bool) (nv0:AV) (H0:Hp) (nx:Nat) (ht0:FD nv0 a0 H0 nx):cT Tryz.prog 76 [cq l,nv0,bl w] H0 nx (fun r H n=>∃b d L,r= .dQ [.sl b L.length,bl (uY a0 l w)]/\b<n/\cC H b=some (.row 9 1 d (strs L))/\L=(if uY a0 l w=true then a0++l.map Decl.name else[])/\nx<=n/\∀y,y<nx->jB nv0 y->cC H y=cC H0 y/\y≠b):=by
 refine(AU l hl hw a0 ha w nv0 H0 nx ht0).wk ?_
 rintro r H n ⟨h1,h2,h3,h4⟩
 have hnil:∀bb:Bool,∀L:List ByteArray,L=[]->∃r2 H2 n2,Wk (.dQ [.sc (.slice none 0 0),bl bb]) H n r2 H2 n2/\∃b d,r2= .dQ [.sl b L.length,bl bb]/\b<n2/\cC H2 b=some (.row 9 1 d (strs L))/\nx<=n2/\∀y,y<nx->jB nv0 y->cC H2 y=cC H0 y/\y≠b:=by
  rintro bb L rfl
  refine⟨_,_,_,Wk.GO (Wk.nil 9 1 .any (by omega)),n, .any,rfl,Nat.lt_succ_self _,cx _ _ _,Nat.le_succ_of_le h1,fun y a b=> ?_⟩
  have hne:y≠n:=by omega
  exact⟨(cc hne).trans (h2 y a b),hne⟩
 cases hk:uY a0 l w with
 |true=>
  obtain⟨nv,rfl,ht,hy⟩:=h3 hk
  rcases ht with⟨rfl,hL⟩|⟨b,d,rfl,hbn,hb⟩
  ·obtain⟨r2,H2,n2,k1,b,d,k2,k3,k4,k5,k6⟩:=hnil true _ hL
   exact⟨r2,H2,n2,k1,b,d,_,k2,k3,k4,by rw[if_pos rfl],k5,k6⟩
  ·exact⟨_,_,_,Wk.refl _ _ _,b,d,_,rfl,hbn,hb,by rw[if_pos rfl],h1,fun y a c=>⟨h2 y a c,yg (hy y a c)⟩⟩
 |false=>
  rw[h4 hk]
  obtain⟨r2,H2,n2,k1,b,d,k2,k3,k4,k5,k6⟩:=hnil false [] rfl
  exact⟨r2,H2,n2,k1,b,d,_,k2,k3,k4,by rw[if_neg (by decide)],k5,k6⟩
set_option maxRecDepth 8000 in
set_option maxHeartbeats 8000000 in
theorem ng (u:cF) (hu:u.Wf):Pure Tryz.prog 37 [u.av] (fun r=>r=tR (gu u)):=by
 refine aG aAL rfl ?_
 have hgl9:=hu.l7
 have hsl9:=hu.kC
 have hll9:=hu.lj
 by_cases hsz:u.shared.length<=64/\u.cI.length<=16/\u.cD.length<=8
 ·obtain⟨hs1,hs2,hs3⟩:=hsz
  have hgm:(u.cD.map cG.av).length=u.cD.length:=by simp
  repeat' (first|refine aQ ?_|exact eE|with_reducible refine aB ?_ ?_|((with_reducible refine Ask.mk ?_);first|exact cw|exact cX|(intro h;simp_all[cF.cells]<;>fail)|(simp_all[cF.cells]<;>fail))|(apply aA;(·exact cK))|refine aH ?_|((with_reducible refine aE ?_ ?_)<;>intro hc<;>try(exfalso;omega)))
  all_goals first|(exfalso;omega)|skip
  refine aV (fun σ:Nat×AV=>[(1, .pt 0 1 0 0),(5,σ.2),(6,i64 σ.1)])
   (fun σ H n=>23<=n/\(∃d,cC H 0=some (.row 25 3 d [u.av]))/\((σ.1<u.cD.length/\σ.2= .sl 22 σ.1/\∃d,cC H 22=some (.row 85 3 d (((jr u).take σ.1).map Decl.av)))\/(σ.1=u.cD.length/\σ.2=cq (jr u)))) (fun σ=>u.cD.length - σ.1) (0,if u.cD.length=0 then cq (jr u) else .sl 22 0) ?_ ?_
  ·by_cases h0:u.cD.length=0
   ·have hz:jr u=[]:=List.length_eq_zero_iff.1 (by rw[kQ];exact h0)
    rw[if_pos h0,hz]
    exact⟨_,_,_,(Rt.nil 5 85 3 (by omega) rfl).trans (Rt.wW 5 22 0 (e:=85) (sz:=3) (d:= .any) (es:=[]) rfl cE rfl),cJ,cZ,⟨_,cE⟩, .inr ⟨h0.symm,rfl⟩⟩
   ·rw[if_neg h0]
    exact⟨_,_,_,Rt.nil 5 85 3 (by omega) rfl,cJ,cZ,⟨_,cE⟩, .inl ⟨by dsimp only;omega,rfl,_,by simp only[List.take_zero,List.map_nil];exact cE⟩⟩
  clear hc
  rintro⟨t,av⟩ H n ⟨hn,⟨d0,r0⟩,hst⟩
  dsimp only at hst ⊢
  rcases hst with⟨htl,rfl,d5,r5⟩|⟨ht,rfl⟩
  ·have eg:=fun d=>kZ (l:=u.cD) htl d
   rw[show u.cD.getD t default=u.gr t from rfl] at eg
   have hnx:=KB htl
   have htm:(((jr u).take t).map Decl.av).length=t:=by rw[List.length_map,List.length_take,kQ];omega
   have hap:(((jr u).take t).map Decl.av)++[(⟨(u.gr t).name,0,0⟩:Decl).av]=(((jr u).take (t+1)).map Decl.av):=by rw[hnx];simp
   have hal:(((jr u).take (t+1)).map Decl.av).length=t+1:=by rw[List.length_map,List.length_take,kQ];omega
   have hap2:=hap
   unfold Decl.av Decl.cells at hap2
   repeat' (first|refine aQ ?_|exact eE|with_reducible refine aB ?_ ?_|((with_reducible refine Ask.mk ?_);first|exact cw|(exact hgm)|(exact htm)|exact cX|(intro h;simp_all[cF.cells,cG.cells]<;>fail)|(simp_all[cF.cells,cG.cells]<;>fail))|(apply aA;(·(first|exact eg _|exact cK)))|refine aH ?_|((with_reducible refine aE ?_ ?_)<;>intro hc<;>try(exfalso;omega)))
   by_cases hlast:t+1=u.cD.length
   ·have hz:(jr u).take (t+1)=jr u:=List.take_of_length_le (by rw[kQ];omega)
    rw[hz] at hap
    exact⟨(t+1,cq (jr u)),by dsimp only;omega,_,_,_,Rt.wW 5 22 (t+1) (e:=85) (sz:=3) (es:=(jr u).map Decl.av) rfl (by rw[<-hap];exact cE) (by rw[List.length_map,kQ];omega),cJ,cZ,⟨_,cE⟩, .inr ⟨hlast,rfl⟩⟩
   ·exact⟨(t+1, .sl 22 (t+1)),by dsimp only;omega,_,_,_,Rt.refl _ _ _,cJ,cZ,⟨_,cE⟩, .inl ⟨by dsimp only;omega,rfl,_,by dsimp only;rw[<-hap];exact cE⟩⟩
  ·subst ht
   repeat' (first|refine aQ ?_|exact eE|with_reducible refine aB ?_ ?_|((with_reducible refine Ask.mk ?_);first|exact cw|(exact hgm)|exact cX|(intro h;simp_all[cF.cells]<;>fail)|(simp_all[cF.cells]<;>fail))|(apply aA;(·exact cK))|refine aH ?_|((with_reducible refine aE ?_ ?_)<;>intro hc<;>try(exfalso;omega)))
   refine aJ (yC u.shared hs1 hu.shared [] (by simp) true _ _ _ (.inl ⟨rfl,rfl⟩)) ?_
   rintro _ H1 n1 ⟨b1,d1,L1,rfl,hb1,hr1,hL1,hn1,hy1⟩
   obtain⟨k1,a1⟩:=hy1 0 (by first|omega|exact cZ) (fun b' n' e=>by cases e)
   have r1:∃d,cC H1 0=some (.row 25 3 d [u.av]):=⟨_,k1.trans cE⟩
   have hnn1:23<=n1:=Nat.le_trans (by first|omega|exact cZ) hn1
   have hl1:L1.length<=64:=by rw[hL1];split<;>simp<;>omega
   clear k1 hy1 r0 hn1
   obtain⟨d1',r1⟩:=r1
   generalize hok1:uY [] u.shared true=o1 at *
   repeat' (first|refine aQ ?_|exact eE|with_reducible refine aB ?_ ?_|((with_reducible refine Ask.mk ?_);first|exact cw|exact cX|(intro h;simp_all[cF.cells]<;>fail)|(simp_all[cF.cells]<;>fail))|(apply aA;(·exact cK))|refine aH ?_|((with_reducible refine aE ?_ ?_)<;>intro hc<;>try(exfalso;omega)))
   refine aJ (yC u.cI (by omega) hu.cI L1 (by omega) false _ _ _ (.inr ⟨b1,_,rfl,Nat.lt_of_lt_of_le hb1 cZ,cE⟩)) ?_
   rintro _ H2 n2 ⟨b2,d2,L2,rfl,hb2,hr2,hL2,hn2,hy2⟩
   obtain⟨k2,a2⟩:=hy2 0 (by first|omega|exact cZ) (fun b' n' e=>by cases e;exact a1)
   have r2:∃d,cC H2 0=some (.row 25 3 d [u.av]):=⟨_,k2.trans cE⟩
   have hnn2:23<=n2:=Nat.le_trans (by first|omega|exact cZ) hn2
   have hl2:L2.length<=128:=by rw[hL2];split<;>simp<;>omega
   clear k2 hy2 r1 hr1 hn2
   obtain⟨d2',r2⟩:=r2
   generalize hok2:uY L1 u.cI false=o2 at *
   repeat' (first|refine aQ ?_|exact eE|with_reducible refine aB ?_ ?_|((with_reducible refine Ask.mk ?_);first|exact cw|exact cX|(intro h;simp_all[cF.cells]<;>fail)|(simp_all[cF.cells]<;>fail))|(apply aA;(·exact cK))|refine aH ?_|((with_reducible refine aE ?_ ?_)<;>intro hc<;>try(exfalso;omega)))
   refine aJ (yC (jr u) (by rw[kQ];omega) (fun d hd=> ?_) L2 (by omega) false _ _ _ (.inr ⟨b2,_,rfl,Nat.lt_of_lt_of_le hb2 cZ,cE⟩)) ?_
   ·obtain⟨g,hg,rfl⟩:=List.mem_map.1 hd
    have hz:ec 0:=by unfold ec;omega
    exact⟨(hu.cD g hg).name,hz,hz⟩
   rintro _ H3 n3 ⟨b3,d3,L3,rfl,hb3,hr3,hL3,hn3,hy3⟩
   obtain⟨k3,a3⟩:=hy3 0 (by first|omega|exact cZ) (fun b' n' e=>by cases e;exact a2)
   have r3:∃d,cC H3 0=some (.row 25 3 d [u.av]):=⟨_,k3.trans cE⟩
   have hnn3:23<=n3:=Nat.le_trans (by first|omega|exact cZ) hn3
   clear k3 hy3 r2 hr2 hr3 hn3
   obtain⟨d3',r3⟩:=r3
   generalize hok3:uY L2 (jr u) false=o3 at *
   have hnm:(o1&&o2&&o3)=fN u:=by
    rw[<-T1 u hs1 hs2 hs3 (L1:=L1) (L2:=L2) (by rw[hok1];exact hL1) (by rw[hok2];exact hL2),hok1,hok2,hok3]
   clear hL1 hL2 hL3 hok1 hok2 hok3
   cases hnb:fN u with
   |false=>
    rw[mH hnb]
    rw[hnb] at hnm
    repeat' (first|refine aQ ?_|exact eE|with_reducible refine aB ?_ ?_|((with_reducible refine Ask.mk ?_);first|exact cw|exact cX|(intro h;simp_all[cF.cells]<;>fail)|(simp_all[cF.cells]<;>fail))|(apply aA;(·exact cK))|refine aH ?_|((with_reducible refine aE ?_ ?_)<;>intro hc<;>try(exfalso;omega)))
    ·exact rfl
    ·exfalso
     obtain⟨hc1,hc2⟩:=hc
     subst hc2
     cases o1<;>cases o2<;>simp_all
   |true=>
    rw[hnb] at hnm
    have e1:o1=true:=by cases o1;cases hnm;rfl
    have e2:o2=true:=by cases o2;cases o1<;>cases hnm;rfl
    have e3:o3=true:=by cases o3;cases o1<;>cases o2<;>cases hnm;rfl
    subst e1;subst e2;subst e3
    have hck:gu u=fM u u.cD 0:=by unfold gu;rw[if_pos hnb]
    rw[hck]
    repeat' (first|refine aQ ?_|exact eE|with_reducible refine aB ?_ ?_|((with_reducible refine Ask.mk ?_);first|exact cw|exact cX|(intro h;simp_all[cF.cells]<;>fail)|(simp_all[cF.cells]<;>fail))|(apply aA;(·exact cK))|refine aH ?_|((with_reducible refine aE ?_ ?_)<;>intro hc<;>try(exfalso;omega)))
    refine aI (fun t:Nat=>[(1, .pt 0 1 0 0),(12,i64 t)])
     (fun t H n=>t<=u.cD.length/\1<=n/\(∃d,cC H 0=some (.row 25 3 d [u.av]))/\fM u (u.cD.drop t) t=fM u u.cD 0) (fun t=>u.cD.length - t) 0 cJ ⟨Nat.zero_le _,cZ,⟨_,cE⟩,rfl⟩ ?_
    clear r3
    rintro t H n ⟨ht,hn,⟨d0,r0⟩,hF⟩
    by_cases htl:t<u.cD.length
    ·have hg:=hu.cD _ (cQ default htl)
     rw[qM htl] at hF
     have eg:=fun d=>kZ htl d
     generalize hG:u.cD.getD t default=g at *
     have hl:=hg.len
     have hnm':(g.nodes.map Node.av).length=g.nodes.length:=by simp
     unfold nS at hF
     by_cases hb:g.locals<0\/g.locals>64\/g.cH<g.locals\/g.cH>4160\/g.nodes.length<1\/g.nodes.length>4096
     ·rw[if_pos hb] at hF
      rw[<-hF]
      repeat' (first|refine aQ ?_|exact eE|with_reducible refine aB ?_ ?_|((with_reducible refine Ask.mk ?_);first|exact cw|(exact hgm)|(exact hnm')|exact cX|(intro h;simp_all[cF.cells,cG.cells]<;>fail)|(simp_all[cF.cells,cG.cells]<;>fail))|(apply aA;(·(first|exact eg _|exact cK)))|refine aH ?_|((with_reducible refine aE ?_ ?_)<;>intro hc<;>try(exfalso;omega)))
      all_goals first|exact rfl|(exfalso;omega)
     ·rw[if_neg hb] at hF
      repeat' (first|refine aQ ?_|exact eE|with_reducible refine aB ?_ ?_|((with_reducible refine Ask.mk ?_);first|exact cw|(exact hgm)|(exact hnm')|exact cX|(intro h;simp_all[cF.cells,cG.cells]<;>fail)|(simp_all[cF.cells,cG.cells]<;>fail))|(apply aA;(·(first|exact eg _|exact cK)))|refine aH ?_|((with_reducible refine aE ?_ ?_)<;>intro hc<;>try(exfalso;omega)))
      all_goals first|(exfalso;omega)|skip
      refine aI (fun i:Nat=>[(1, .pt 0 1 0 0),(12,i64 t),(13, .pt (n+10) 1 0 0),(14,i64 i)])
       (fun i H2 n2=>i<=g.nodes.length/\n+11<=n2/\(∃d,cC H2 0=some (.row 25 3 d [u.av]))/\(∃d,cC H2 (n+10)=some (.row 60 4 d [g.av]))/\gA (iw u g) (g.nodes.drop i) i=gA (iw u g) g.nodes 0) (fun i=>g.nodes.length - i) 0 cJ ⟨Nat.zero_le _,cZ,⟨_,cE⟩,⟨_,cE⟩,rfl⟩ ?_
      clear r0
      rintro i H2 n2 ⟨hi,hn2,⟨d02,r0⟩,⟨d4,r4⟩,hfst⟩
      by_cases hil:i<g.nodes.length
      ·have hp:=ED u g (g.nodes.getD i default) (hg.nodes _ (cQ default hil))
       have en:=fun d=>fx hil d
       have hfst2:=tx default hfst hil
       cases hnb:iw u g (g.nodes.getD i default) with
       |false=>
        rw[hnb] at hp
        rw[if_neg (by rw[hnb];decide)] at hfst2
        rw[hfst2] at hF
        rw[<-hF]
        repeat' (first|refine aQ ?_|exact eE|with_reducible refine aB ?_ ?_|((with_reducible refine Ask.mk ?_);first|exact cw|(exact hnm')|exact cX|(intro h;simp_all[cF.cells,cG.cells,Node.cells]<;>fail)|(simp_all[cF.cells,cG.cells,Node.cells]<;>fail))|(apply aA;(·(first|exact en _|exact cK)))|refine aK (hp) ?_|refine aH ?_|((with_reducible refine aE ?_ ?_)<;>intro hc<;>try(exfalso;omega)))
        exact rfl
       |true=>
        rw[hnb] at hp
        rw[if_pos hnb] at hfst2
        repeat' (first|refine aQ ?_|exact eE|with_reducible refine aB ?_ ?_|((with_reducible refine Ask.mk ?_);first|exact cw|(exact hnm')|exact cX|(intro h;simp_all[cF.cells,cG.cells,Node.cells]<;>fail)|(simp_all[cF.cells,cG.cells,Node.cells]<;>fail))|(apply aA;(·(first|exact en _|exact cK)))|refine aK (hp) ?_|refine aH ?_|((with_reducible refine aE ?_ ?_)<;>intro hc<;>try(exfalso;omega)))
        exact⟨i+1,by omega,cJ,by omega,cZ,⟨_,cE⟩,⟨_,cE⟩,hfst2.symm⟩
      ·have:i=g.nodes.length:=by omega
       subst this
       rw[tw _ _ (Nat.le_refl _)] at hfst
       rw[<-hfst] at hF
       dsimp only at hF
       have hok:Whole g:=ux (u:=u) (by omega) fun m hm=>oT.1 (jP.1 hfst.symm m hm)
       have hh:=uc g hg hok
       unfold j4 at hh
       by_cases hb2:0<=(dc g).2
       ·rw[if_pos hb2] at hF
        rw[<-hF]
        repeat' (first|refine aQ ?_|exact eE|with_reducible refine aB ?_ ?_|((with_reducible refine Ask.mk ?_);first|exact cw|(exact hnm')|exact cX|(intro h;simp_all[cF.cells,cG.cells]<;>fail)|(simp_all[cF.cells,cG.cells]<;>fail))|(apply aA;(·exact cK))|refine aK (hh) ?_|refine aH ?_|((with_reducible refine aE ?_ ?_)<;>intro hc<;>try(exfalso;omega)))
        exact rfl
       ·rw[if_neg hb2] at hF
        repeat' (first|refine aQ ?_|exact eE|with_reducible refine aB ?_ ?_|((with_reducible refine Ask.mk ?_);first|exact cw|(exact hnm')|exact cX|(intro h;simp_all[cF.cells,cG.cells]<;>fail)|(simp_all[cF.cells,cG.cells]<;>fail))|(apply aA;(·exact cK))|refine aK (hh) ?_|refine aH ?_|((with_reducible refine aE ?_ ?_)<;>intro hc<;>try(exfalso;omega)))
        exact⟨t+1,by omega,cJ,by omega,by omega,⟨_,cE⟩,hF⟩
    ·have:t=u.cD.length:=by omega
     subst this
     rw[List.drop_eq_nil_of_le (Nat.le_refl _),fM] at hF
     rw[<-hF]
     repeat' (first|refine aQ ?_|exact eE|with_reducible refine aB ?_ ?_|((with_reducible refine Ask.mk ?_);first|exact cw|(exact hgm)|exact cX|(intro h;simp_all[cF.cells]<;>fail)|(simp_all[cF.cells]<;>fail))|(apply aA;(·exact cK))|refine aH ?_|((with_reducible refine aE ?_ ?_)<;>intro hc<;>try(exfalso;omega)))
     exact rfl
 ·have hb:fN u=false:=by
   unfold fN
   by_cases e1:u.shared.length<=64
   ·by_cases e2:u.cI.length<=16
    ·have e3:¬u.cD.length<=8:=fun e=>hsz ⟨e1,e2,e⟩
     simp[e3]
    ·simp[e2]
   ·simp[e1]
  rw[mH hb]
  repeat' (first|refine aQ ?_|exact eE|with_reducible refine aB ?_ ?_|((with_reducible refine Ask.mk ?_);first|exact cw|exact cX|(intro h;simp_all[cF.cells]<;>fail)|(simp_all[cF.cells]<;>fail))|(apply aA;(·exact cK))|refine aH ?_|((with_reducible refine aE ?_ ?_)<;>intro hc<;>try(exfalso;omega)))
  all_goals first|exact rfl|(exfalso;omega)
set_option maxRecDepth 4000 in
set_option maxHeartbeats 4000000 in
theorem A7 (g:cG) (hg:g.Wf) (hw:Whole g):Pure Tryz.prog 171 [g.av] (fun r=>r=bl true):=by
 have hl:=hg.len
 have hl0:=hw.1
 have hl1:=hw.2.1
 refine aG XQ rfl ?_
 repeat' (first|refine aQ ?_|exact eE|with_reducible refine aB ?_ ?_|((with_reducible refine Ask.mk ?_);first|exact cw|exact cX|(intro h;simp_all[cG.cells]<;>fail)|(simp_all[cG.cells]<;>fail))|(apply aA;(·exact cK))|refine aH ?_|((with_reducible refine aE ?_ ?_)<;>intro hc<;>try(exfalso;omega)))
 refine aI (fun i:Nat=>[(1, .pt 0 1 0 0),(3,i64 i)])
  (fun i H n=>i<=g.nodes.length/\1<=n/\∃d,cC H 0=some (.row 60 4 d [g.av])) (fun i=>g.nodes.length - i) 0 cJ ⟨Nat.zero_le _,cZ,⟨_,cE⟩⟩ ?_
 rintro i H n ⟨hi,hn,⟨d0,r0⟩⟩
 by_cases hil:i<g.nodes.length
 ·have en:=fun d=>fx (l:=g.nodes) hil d
  obtain⟨k1,k2,k3⟩:=hw.2.2 i hil
  have k1:1<=(g.nodes.getD i default).kind:=k1
  have k2:(g.nodes.getD i default).kind<10:=k2
  have hf:=ox (g.nd i)
  have hfl:=F2 (g.nd i)
  unfold eP at hf
  repeat' (first|refine aQ ?_|exact eE|with_reducible refine aB ?_ ?_|((with_reducible refine Ask.mk ?_);first|exact cw|exact cX|(intro h;simp_all[cG.cells,Node.cells]<;>fail)|(simp_all[cG.cells,Node.cells]<;>fail))|(apply aA;(·(first|exact en _|exact cK)))|refine aK (hf) ?_|refine aH ?_|((with_reducible refine aE ?_ ?_)<;>intro hc<;>try(exfalso;omega)))
  clear hf
  refine aI (fun j:Nat=>[(1, .pt 0 1 0 0),(3,i64 i),(5, .im 1 .any ((g.nd i).gF.map i64)),(6,i64 j)])
   (fun j H2 n2=>j<=(g.nd i).gF.length/\n<=n2/\∃d,cC H2 0=some (.row 60 4 d [g.av])) (fun j=>(g.nd i).gF.length - j) 0 cJ ⟨Nat.zero_le _,cZ,⟨_,cE⟩⟩ ?_
  rintro j H2 n2 ⟨hj,hn2,⟨d02,r02⟩⟩
  by_cases hjl:j<(g.nd i).gF.length
  ·have ej:=fun d=>gw (l:=(g.nd i).gF) hjl d
   have hk:=k3 _ (cQ (0:Int) hjl)
   generalize (g.nd i).gF.getD j 0=y at *
   repeat' (first|refine aQ ?_|exact eE|with_reducible refine aB ?_ ?_|((with_reducible refine Ask.mk ?_);first|exact cw|exact cX|(intro h;simp_all[cG.cells]<;>fail)|(simp_all[cG.cells]<;>fail))|(apply aA;(·(first|exact ej _|exact cK)))|refine aH ?_|((with_reducible refine aE ?_ ?_)<;>intro hc<;>try(exfalso;omega)))
   exact⟨j+1,by omega,cJ,by omega,cZ,⟨_,cE⟩⟩
  ·have:j=(g.nd i).gF.length:=by omega
   subst this
   repeat' (first|refine aQ ?_|exact eE|with_reducible refine aB ?_ ?_|((with_reducible refine Ask.mk ?_);first|exact cw|exact cX|(intro h;simp_all[cG.cells]<;>fail)|(simp_all[cG.cells]<;>fail))|(apply aA;(·exact cK))|refine aH ?_|((with_reducible refine aE ?_ ?_)<;>intro hc<;>try(exfalso;omega)))
   exact⟨i+1,by omega,cJ,by omega,cZ,⟨_,cE⟩⟩
 ·have:i=g.nodes.length:=by omega
  subst this
  repeat' (first|refine aQ ?_|exact eE|with_reducible refine aB ?_ ?_|((with_reducible refine Ask.mk ?_);first|exact cw|exact cX|(intro h;simp_all[cG.cells]<;>fail)|(simp_all[cG.cells]<;>fail))|(apply aA;(·exact cK))|refine aH ?_|((with_reducible refine aE ?_ ?_)<;>intro hc<;>try(exfalso;omega)))
  exact rfl
end Go.Proofs.YtjopoheligmmoaaGreatDoor
