import Derived.Test.YtjopoheligmmoaaGreatDoorM3
import Derived.Laws.StructEq
import Derived.Laws.Slices
import Derived.Laws.CopyRow
import Derived.ChangeKeysEq
section
/- Each step of ours is a step of the model's. -/
set_option linter.unusedSimpArgs false
set_option linter.unusedVariables false
namespace Go.cw
open Go.RowKit
section
variable {P:Program} {o:Oper} {a:Act} {w0:World} {c:Cx} {id:Nat} {fr:Fr} {H:Hp} {lop:df} {r:AV} {u:Option (Nat×fH)}
theorem RW {t:Bool} {x y:AV} {v w:Value} (hx:VR c x v) (hy:VR c y w):VR c (qa t x y) (if t then v else w):=by
 unfold qa
 split
 ·rw[VR] at hx hy ⊢
  subst hx hy
  cases t<;>rfl
 ·cases t
  ·simpa using hy
  ·simpa using hx
theorem II {k x y:Operand} {k' x' y':eO} {t:Bool} (ho:o.op= .pick k x y) (h:dy w0 c) (hF:FR c fr a.tmps) (h1:cQ k=some k') (h2:cQ x=some x') (h3:cQ y=some y') (hk:ev fr k'= .sc (.bool t)):
 eU P o a w0 c id (qa t (ev fr x') (ev fr y')) c.H:=by
 have hkv:=gY hF h1
 rw[hk,VR] at hkv
 refine cR (v:=if t then a.eval x else a.eval y) h ?_ (RW (gY hF h2) (gY hF h3))
 unfold execOp
 simp[ho,hkv,asBool]
theorem qN {x:Operand} {x':eO} {r:AV} (ho:o.op= .nilCheck x) (h:dy w0 c) (hF:FR c fr a.tmps) (h1:cQ x=some x')
 (hr:ev fr x'=r) (hk:(∃b l i off,r= .pt b l i off)\/(∃sz d es i off,r= .ip sz d es i off)\/(∃f p q,r= .fn (.func f) p q)\/(∃t v,r= .nA t v)):eU P o a w0 c id r c.H:=by
 have hv:=gY hF h1
 rw[hr] at hv
 refine cR (v:=a.eval x) h ?_ hv
 unfold execOp
 rcases hk with⟨b,l,i,off,rfl⟩|⟨sz,d,es,i,off,rfl⟩|⟨f,p,q,rfl⟩|⟨t,v,rfl⟩
 ·rw[VR] at hv
  obtain⟨_,_,ad,hv,_⟩:=hv
  simp[ho,hv]
 ·rw[VR] at hv
  obtain⟨_,_,blk,o',hv,_⟩:=hv
  simp[ho,hv]
 ·rw[VR] at hv
  obtain⟨ps,qs,hv,_⟩:=hv
  simp[ho,hv]
 ·rw[VR] at hv
  obtain⟨u,hv,_⟩:=hv
  simp[ho,hv]
theorem MM {op:BinOp} {t yt:TypeId} {x y:Operand} {x' y':eO} {r:AV} (ho:o.op= .binOp op t x y yt) (h:dy w0 c) (hF:FR c fr a.tmps) (h1:cQ x=some x') (h2:cQ y=some y')
 (hr:G9 op (ev fr x') (ev fr y')=some r):eU P o a w0 c id r c.H:=by
 have hx:=gY hF h1
 have hy:=gY hF h2
 have key:∃k i k' j,ev fr x'= .sc (.int k i)/\ev fr y'= .sc (.int k' j):=by
  generalize ev fr x'=A at hr
  generalize ev fr y'=B at hr
  unfold G9 at hr
  split at hr<;>first|exact⟨_,_,_,_,rfl,rfl⟩|simp at hr
 obtain⟨k,i,k',j,ex,ey⟩:=key
 rw[ex,VR] at hx
 rw[ey,VR] at hy
 rw[ex,ey] at hr
 cases op<;>simp only[G9,Option.ite_none_right_eq_some,Option.some.injEq,reduceCtorEq] at hr
 all_goals first|(obtain⟨⟨rfl,h0⟩,rfl⟩:=hr)|(obtain⟨rfl,rfl⟩:=hr)|(obtain⟨h0,rfl⟩:=hr;have h0':¬j<0:=by omega)
 all_goals (refine cR h (v:=_) ?_ (by rw[VR]))
 all_goals unfold execOp
 all_goals first
  |(simp[ho,hx,hy,eqGuard,binOp,Op.intArith,Op.intCmp,Op.intBits,Op.intDiv,Op.shift, *]<;>first|rfl|(congr 1))
  |(simp[ho,hx,hy,eqGuard,binOp,Op.intArith,Op.intCmp,Op.intBits,Op.intDiv,Op.shift, *];done)
theorem zh {neg:Bool} {op:BinOp} {t yt:TypeId} {x y:Operand} {x' y':eO} {p q:Bool} (ho:o.op= .binOp op t x y yt) (ht:P.underlying t=some .bool) (hop:op=if neg then .neq else .eql) (h:dy w0 c) (hF:FR c fr a.tmps) (h1:cQ x=some x') (h2:cQ y=some y')
 (ex:ev fr x'= .sc (.bool p)) (ey:ev fr y'= .sc (.bool q)):eU P o a w0 c id (.sc (.bool (if neg then p != q else p==q))) c.H:=by
 have hx:=gY hF h1
 have hy:=gY hF h2
 rw[ex,VR] at hx
 rw[ey,VR] at hy
 subst hop
 refine cR h (v:=_) ?_ (by rw[VR])
 have he:(Op.equal t (.bool p) (.bool q)).run P c.w= .ok (p==q) c.w:=run_equalIn_bool' c.w 9999 t p q ht
 have e1:(binOp .eql t (.bool p) (.bool q))=(do pure (.bool (<-Op.equal t (.bool p) (.bool q)))):=rfl
 have e2:(binOp .neq t (.bool p) (.bool q))=(do pure (.bool (!(<-Op.equal t (.bool p) (.bool q))))):=rfl
 unfold execOp
 cases neg
 ·simp only[ho,hx,hy,eqGuard_at_bool,e1,Bool.false_eq_true,if_false,Sem.run_bind,Sem.run_pure,Result.andThen_ok,he]
 ·simp only[ho,hx,hy,eqGuard_at_bool,e2,if_true,Sem.run_bind,Sem.run_pure,Result.andThen_ok,he]
  rfl
theorem uV {neg:Bool} {op:BinOp} {t yt:TypeId} {x y:Operand} {x' y':eO} {p q:ByteArray} (ho:o.op= .binOp op t x y yt) (hop:op=if neg then .neq else .eql) (h:dy w0 c) (hF:FR c fr a.tmps) (h1:cQ x=some x') (h2:cQ y=some y')
 (ex:ev fr x'= .sc (.string p)) (ey:ev fr y'= .sc (.string q)):eU P o a w0 c id (.sc (.bool (if neg then p != q else p==q))) c.H:=by
 have hx:=gY hF h1
 have hy:=gY hF h2
 rw[ex,VR] at hx
 rw[ey,VR] at hy
 subst hop
 refine cR h (v:=_) ?_ (by rw[VR])
 unfold execOp
 cases neg<;>simp[ho,hx,hy,eqGuard,binOp,Op.stringOp,beq_toListBytes,bne]
theorem we {op:BinOp} {t yt:TypeId} {x y:Operand} {x' y':eO} {r:AV} (ho:o.op= .binOp op t x y yt) (hop:op= .add\/op= .lss) (h:dy w0 c) (hF:FR c fr a.tmps) (h1:cQ x=some x') (h2:cQ y=some y')
 (hr:OS op (ev fr x') (ev fr y')=some r):eU P o a w0 c id r c.H:=by
 have hx:=gY hF h1
 have hy:=gY hF h2
 generalize ev fr x'=A at hr hx
 generalize ev fr y'=B at hr hy
 unfold OS at hr
 split at hr
 ·rename_i p q
  rw[VR] at hx
  rw[VR] at hy
  rcases hop with rfl|rfl
  ·simp only[Option.ite_none_right_eq_some,Option.some.injEq] at hr
   obtain⟨hb,rfl⟩:=hr
   refine cR h (v:=_) ?_ (by rw[VR])
   unfold execOp
   have hn:¬((p.size:Int)+q.size>IntKind.i64.max):=by
    have:IntKind.i64.max=9223372036854775807:=by decide
    omega
   simp[ho,hx,hy,eqGuard,binOp,Op.stringOp,hn]
   omega
  ·simp only[Option.some.injEq] at hr
   subst hr
   refine cR h (v:=_) ?_ (by rw[VR])
   unfold execOp
   simp[ho,hx,hy,eqGuard,binOp,Op.stringOp]
 ·cases hr
theorem tq:∀{xs:List AV} {ns:List Int},mD xs=some ns->xs.length=ns.length/\∀i,i<ns.length->xs.getD i .any= .sc (.int .u8 (ns.getD i 0))
 |[],ns,h=>by
  simp only[mD,Option.some.injEq] at h
  subst h;exact⟨rfl,fun i hi=>by simp at hi⟩
 |x::xs,ns,h=>by
  unfold mD at h
  split at h
  ·rename_i heq
   cases heq
  ·rename_i n r heq
   cases heq
   simp only[Option.map_eq_some_iff] at h
   obtain⟨ms,h1,rfl⟩:=h
   obtain⟨g1,g2⟩:=tq h1
   refine⟨by simp[g1],fun i hi=> ?_⟩
   cases i with
   |zero=>rfl
   |succ i=>exact g2 i (by simpa using hi)
  ·cases h
theorem MK {s t e:TypeId} {x:Operand} {x':eO} {H:Hp} {xs:List AV} {ns:List Int} (ho:o.op= .convert s t x) (hs:P.underlying s=some (.slice e)) (he:P.underlying e=some (.int .u8)) (ht:P.underlying t=some .string) (h:dy w0 c) (hH:c.H=bt H) (hF:FR c fr a.tmps) (h1:cQ x=some x')
 (hx:ic H (ev fr x')=some xs) (hz:BP H 1 (ev fr x')=true) (hb:mD xs=some ns):eU P o a w0 c id (.sc (.string (KB ns))) c.H:=by
 obtain⟨ad,cap,hv,hrow⟩:=pM h hH (gY hF h1) hx hz
 obtain⟨hl,hg⟩:=tq hb
 have hrun:(Conv.bytesToString (.slice ad xs.length cap)).run P c.w= .ok (.string (KB ns)) c.w:=by
  cases ad with
  |none=>
   rcases hrow with h0|⟨_,_,h0,_⟩
   ·subst h0
    simp only[mD,Option.some.injEq] at hb
    subst hb;rfl
   ·cases h0
  |some A=>
   refine run_bytesToString c.w A xs.length cap ns ?_
   rw[hl]
   have:=run_loadCells_list (P:=P) c.w A (ns.map (Value.int .u8)) (fun j v hj=>by
    rcases hrow with h0|⟨blk,off,h0,hr⟩
    ·subst h0
     simp only[mD,Option.some.injEq] at hb
     subst hb;simp at hj
    ·cases h0
     have hj2:j<ns.length:=by simpa using(List.getElem?_eq_some_iff.1 hj).1
     obtain⟨v2,⟨a1,a2,a3⟩,hvr⟩:=eC hr j (by omega)
     rw[hg j hj2,VR] at hvr
     subst hvr
     have h3:=a2 0 (by omega)
     have h4:(ns.map (Value.int .u8))[j]?=some (.int .u8 (ns.getD j 0)):=by simp[List.getD,hj2]
     rw[h4] at hj
     cases hj
     rw[Addr.add_lit,show off+j=off+j * 1+0 by omega,h3]
     rfl)
   simpa using this
 refine cR h (v:=_) ?_ (by rw[VR])
 unfold execOp
 simp only[ho,hv,Sem.run_bind,run_convert_bytes_string c.w s t e ad xs.length cap hs he ht,hrun,Result.andThen_ok,Sem.run_pure]
theorem QL {op:UnOp} {t:TypeId} {x:Operand} {x':eO} {r:AV} (ho:o.op= .unOp op t x) (h:dy w0 c) (hF:FR c fr a.tmps) (h1:cQ x=some x') (hr:ZP op (ev fr x')=some r):eU P o a w0 c id r c.H:=by
 have hx:=gY hF h1
 generalize ev fr x'=A at hr hx
 unfold ZP at hr
 split at hr
 ·simp only[Option.some.injEq] at hr
  subst hr
  rw[VR] at hx
  refine cR h (v:=_) ?_ (by rw[VR])
  unfold execOp
  simp[ho,hx,Op.unary]
 ·simp only[Option.some.injEq] at hr
  subst hr
  rw[VR] at hx
  refine cR h (v:=_) ?_ (by rw[VR])
  unfold execOp
  simp[ho,hx,Op.unary,Op.intArith]
 ·simp at hr
theorem MP {s t:TypeId} {x:Operand} {x':eO} {k k0 j:IntKind} {n:Int} (ho:o.op= .convert s t x) (hs:P.underlying s=some (.int j)) (ht:P.underlying t=some (.int k)) (h:dy w0 c) (hF:FR c fr a.tmps) (h1:cQ x=some x')
 (ex:ev fr x'= .sc (.int k0 n)):eU P o a w0 c id (.sc (.int k (k.wrap n))) c.H:=by
 have hx:=gY hF h1
 rw[ex,VR] at hx
 refine cR h (v:= .int k (k.wrap n)) ?_ (by rw[VR])
 unfold execOp
 simp[ho,hx,convert,run_underlying hs,run_underlying ht,Conv.intToInt]
theorem QJ {s:TypeId} {x:Operand} {x':eO} {f:Nat} {fs:Array Field} {fl:Field} {k:Nat} {r:AV} (ho:o.op= .fieldAddr s x f) (hs:P.underlying s=some (.struct fs)) (hf:fs[f]?=some fl) (hk:kq P fl.type=some (k+1)) (h:dy w0 c) (hH:c.H=bt H) (hF:FR c fr a.tmps) (h1:cQ x=some x')
 (hr:(match ev fr x' with
  | .ip sz d es i o=>if o+fl.offset<sz then some (AV.ip sz d es i (o+fl.offset),(none:Option (Nat×fH))) else none
  | .pt b len i o=>match bt H b with
   |some (.row _ sz _ es)=>if es.length=len/\o+fl.offset<sz then some (.pt b len i (o+fl.offset),none) else none
   |none=>none
  |_=>none)=some (r,u)):eU P o a w0 c id r c.H/\u=none:=by
 have hx:=gY hF h1
 generalize ev fr x'=A at hr hx
 have hrun:∀blk off,a.eval x= .pointer (some ⟨blk,off,none⟩)->(execOp a.eval o).run P c.w= .ok (.value (.pointer (some ⟨blk,off+fl.offset,none⟩))) c.w:=by
  intro blk off hv
  unfold execOp
  simp[ho,hv,Instr.fieldAt,Instr.sureAddr,run_underlying hs,hf,fieldPlace,run_sizeOf hk,Addr.add_lit]
 cases A<;>simp only[reduceCtorEq] at hr
 ·simp only[Option.ite_none_right_eq_some,Option.some.injEq,Prod.mk.injEq] at hr
  obtain⟨hlt,rfl,rfl⟩:=hr
  rw[VR] at hx
  obtain⟨hi,ho',blk,o',hv,hm,hrow⟩:=hx
  refine⟨cR h (hrun _ _ hv) ?_,rfl⟩
  rw[VR]
  exact⟨hi,hlt,blk,o',by rw[Nat.add_assoc],hm,hrow⟩
 ·rename_i b len i off
  cases hb:bt H b with
  |none=>rw[hb] at hr;simp at hr
  |some kk=>
   obtain⟨e',sz',d,es⟩:=kk
   rw[hb] at hr
   simp only[Option.ite_none_right_eq_some,Option.some.injEq,Prod.mk.injEq] at hr
   obtain⟨⟨hlen,hlt⟩,rfl,rfl⟩:=hr
   rw[VR] at hx
   obtain⟨hU,hi,ad,hv,hr⟩:=hx
   rw[<-hH] at hb
   obtain⟨hle,hr⟩:=hr _ _ _ _ hb
   obtain⟨_,blk,o',z,hρ,rfl⟩:=hr hlen
   refine⟨cR h (hrun _ _ hv) ?_,rfl⟩
   rw[VR]
   refine⟨hU,hi,_,rfl,fun e2 sz2 d2 es2 he2=> ?_⟩
   rw[hb] at he2
   simp only[Option.some.injEq,fH.row.injEq] at he2
   obtain⟨rfl,rfl,rfl,rfl⟩:=he2
   exact⟨hle,fun _=>⟨hlt,blk,o',z,hρ,by rw[Nat.add_assoc]⟩⟩
theorem F5 {t:TypeId} {x i:Operand} {x' i':eO} {k:Nat} {n:Option Nat} {r:AV} (ho:o.op= .indexAddr t x i) (ht:(n=none/\∃e,P.underlying t=some (.slice e)/\kq P e=some k)\/∃m e,n=some m/\P.underlying t=some (.array m e)/\kq P e=some k)
 (h:dy w0 c) (hH:c.H=bt H) (hF:FR c fr a.tmps) (h1:cQ x=some x') (h2:cQ i=some i') (hr:KS H k n (ev fr x') (ev fr i')=some r):eU P o a w0 c id r c.H:=by
 have hx:=gY hF h1
 have hi:=gY hF h2
 generalize ev fr x'=A at hr hx
 generalize ev fr i'=B at hr hi
 unfold KS at hr
 split at hr
 ·rename_i kk j
  rw[VR] at hi
  rcases ht with⟨rfl,e,ht,hk⟩|⟨m,e,rfl,ht,hk⟩
  ·have hrun:∀ad len cap,a.eval x= .slice (some ad) len cap->0<=j->j<len->(execOp a.eval o).run P c.w= .ok (.value (.pointer (some (ad.add (j.toNat * k))))) c.w:=by
    intro ad len cap hv h0 hl
    unfold execOp
    simp[ho,hv,hi,Instr.indexAt,asIntOf,run_underlying ht,h0,hl,run_sizeOf hk]
   cases A<;>simp only[reduceCtorEq] at hr
   ·simp only[Option.ite_none_right_eq_some,Option.some.injEq] at hr
    obtain⟨⟨rfl,h0,hl⟩,rfl⟩:=hr
    rename_i sz d es
    rw[VR] at hx
    obtain⟨ad,cap,hv,_,hor⟩:=hx
    rcases hor with he|⟨blk,off,rfl,hz,hm,hrow⟩
    ·subst he;simp at hl;omega
    ·refine cR h (hrun _ _ _ hv h0 hl) ?_
     rw[VR,Addr.add_lit]
     exact⟨by omega,hz,blk,off,by simp,hm,hrow⟩
   ·rename_i b len
    cases hb:bt H b with
    |none=>rw[hb] at hr;simp at hr
    |some q=>
     obtain⟨e',sz',d,es⟩:=q
     rw[hb] at hr
     simp only[Option.ite_none_right_eq_some,Option.some.injEq] at hr
     obtain⟨⟨hlen,rfl,h0,hl⟩,rfl⟩:=hr
     rw[VR] at hx
     obtain⟨hU,ad,cap,hv,hr⟩:=hx
     rw[<-hH] at hb
     obtain⟨hle,hr⟩:=hr _ _ _ _ hb
     obtain⟨_,hz,hrow⟩:=h.kO b _ _ _ _ hb (vI (hr hlen))
     rcases hr hlen with⟨hρ,_⟩|⟨blk,off,z,hρ,rfl,_⟩
     ·rcases hrow with⟨_,he⟩|⟨_,_,_,hρ',_⟩
      ·subst he;simp at hlen;omega
      ·rw[hρ] at hρ';cases hρ'
     ·refine cR h (hrun _ _ _ hv h0 hl) ?_
      rw[VR,Addr.add_lit]
      refine⟨hU,by omega,_,rfl,fun e2 sz2 d2 es2 he2=> ?_⟩
      rw[hb] at he2
      simp only[Option.some.injEq,fH.row.injEq] at he2
      obtain⟨rfl,rfl,rfl,rfl⟩:=he2
      exact⟨hle,fun _=>⟨hz,blk,off,z,hρ,by simp⟩⟩
   ·rename_i b len lo m
    cases hb:bt H b with
    |none=>rw[hb] at hr;simp at hr
    |some q=>
     obtain⟨e',sz',d,es⟩:=q
     rw[hb] at hr
     simp only[Option.ite_none_right_eq_some,Option.some.injEq] at hr
     obtain⟨⟨hlen,rfl,h0,hl⟩,rfl⟩:=hr
     rw[VR] at hx
     obtain⟨hU,hlm,ad,cap,hv,_,hr⟩:=hx
     rw[<-hH] at hb
     obtain⟨hle,hr⟩:=hr _ _ _ _ hb
     obtain⟨_,hz,hrow⟩:=h.kO b _ _ _ _ hb (KC (hr hlen).2)
     rcases hr hlen with h00|⟨blk,off,z,hρ,rfl⟩
     ·omega
     ·refine cR h (hrun _ _ _ hv h0 hl) ?_
      rw[VR,Addr.add_lit]
      refine⟨hU,by omega,_,rfl,fun e2 sz2 d2 es2 he2=> ?_⟩
      rw[hb] at he2
      simp only[Option.some.injEq,fH.row.injEq] at he2
      obtain⟨rfl,rfl,rfl,rfl⟩:=he2
      exact⟨hle,fun _=>⟨hz,blk,off,z,hρ,by simp only[Addr.mk.injEq,Nat.add_zero,and_true,true_and];rw[Nat.add_mul];omega⟩⟩
  ·have hrun:∀ad,a.eval x= .pointer (some ad)->0<=j->j<m->(execOp a.eval o).run P c.w= .ok (.value (.pointer (some (ad.add (j.toNat * k))))) c.w:=by
    intro ad hv h0 hl
    unfold execOp
    simp[ho,hv,hi,Instr.indexAt,Instr.sureAddr,asIntOf,run_underlying ht,h0,hl,run_sizeOf hk]
   have hjk:∀h0:0<=j,j<m->j.toNat * k+k<=m * k:=fun h0 hl=>by
    rw[<-Nat.succ_mul];exact Nat.mul_le_mul_right _ (by omega)
   have hkpos:∀{sz off:Nat},off<sz->off+m * k<=sz->0<=j->j<m->off+j.toNat * k<sz:=by
    intro sz off hlt hle h0 hl
    have:=hjk h0 hl
    rcases Nat.eq_zero_or_pos k with hk0|hk0
    ·subst hk0;simpa using hlt
    ·omega
   cases A<;>simp only[reduceCtorEq] at hr
   ·simp only[Option.ite_none_right_eq_some,Option.some.injEq] at hr
    obtain⟨⟨hle,h0,hl⟩,rfl⟩:=hr
    rw[VR] at hx
    obtain⟨hi',ho',blk,o',hv,hm,hrow⟩:=hx
    refine cR h (hrun _ hv h0 hl) ?_
    rw[VR,Addr.add_lit]
    exact⟨hi',hkpos ho' hle h0 hl,blk,o',by rw[Nat.add_assoc],hm,hrow⟩
   ·rename_i b len i2 off
    cases hb:bt H b with
    |none=>rw[hb] at hr;simp at hr
    |some q=>
     obtain⟨e',sz',d,es⟩:=q
     rw[hb] at hr
     simp only[Option.ite_none_right_eq_some,Option.some.injEq] at hr
     obtain⟨⟨hlen,hle',h0,hl⟩,rfl⟩:=hr
     rw[VR] at hx
     obtain⟨hU,hi2,ad,hv,hr⟩:=hx
     rw[<-hH] at hb
     obtain⟨hle,hr⟩:=hr _ _ _ _ hb
     obtain⟨ho',blk,o',z,hρ,rfl⟩:=hr hlen
     refine cR h (hrun _ hv h0 hl) ?_
     rw[VR,Addr.add_lit]
     refine⟨hU,hi2,_,rfl,fun e2 sz2 d2 es2 he2=> ?_⟩
     rw[hb] at he2
     simp only[Option.some.injEq,fH.row.injEq] at he2
     obtain⟨rfl,rfl,rfl,rfl⟩:=he2
     exact⟨hle,fun _=>⟨hkpos ho' hle' h0 hl,blk,o',z,hρ,by rw[Nat.add_assoc]⟩⟩
 ·simp at hr
theorem BH {t:TypeId} {ag:Bool} {k:Nat} (hg:gX P t=some ag) (hk:kq P t=some k) (hk1:ag=false->k=1) {cs:List AV} {vs:Array Value} (hv:cu c cs vs.toList) (off:Nat) (hle:off+k<=cs.length) (w:World):
 ∃v,(part t vs off).run P w= .ok v w/\VR c (if ag then .agg ((cs.drop off).take k) else cs.getD off .any) v:=by
 have hl:=hv.length
 simp at hl
 unfold part
 simp only[Sem.run_bind,oZ hg,Result.andThen_ok]
 cases ag with
 |true=>
  refine⟨.agg (vs.extract off (off+k)), ?_, ?_⟩
  ·simp[run_sizeOf hk]
  ·rw[if_pos rfl,VR]
   refine⟨_,rfl, ?_⟩
   have:=(hv.drop off).take k
   simpa[Array.toList_extract,List.extract_eq_take_drop] using this
 |false=>
  have:=hk1 rfl
  subst this
  obtain⟨v,h1,h2⟩:=hv.get off (by omega)
  refine⟨v, ?_,by simpa using h2⟩
  have:vs[off]?=some v:=by simpa using h1
  simp[this]
theorem MV {x:Operand} {x':eO} {t e:TypeId} {n:Nat} (ho:o.op= .call { callee:= .builtin .len,args:=#[x],argTypes:=#[t] }) (ht:P.underlying t=some (.slice e)) (h:dy w0 c) (hF:FR c fr a.tmps) (h1:cQ x=some x')
 (hr:u9 H (ev fr x')=some n):eU P o a w0 c id (.sc (.int .i64 n)) c.H:=by
 have hx:=gY hF h1
 generalize ev fr x'=A at hr hx
 have hrun:∀p q,a.eval x= .slice p n q->(execOp a.eval o).run P c.w= .ok (.value (.int .i64 n)) c.w:=by
  intro p q hv
  unfold execOp
  simp[ho,resolve,invoke,builtin,Builtin.len_,hv,run_underlying ht,goInt]
 cases A<;>try simp only[u9,reduceCtorEq] at hr
 ·rename_i v0
  by_cases hn:v0= .slice none 0 0
  ·subst hn
   simp only[Option.some.injEq] at hr
   subst hr
   rw[VR] at hx
   exact cR h (hrun _ _ hx) (by rw[VR])
  ·exfalso
   split at hr
   all_goals first|(rename_i heq;cases heq;done)|(rename_i heq;cases heq;exact hn rfl)|(cases hr)
 ·simp only[Option.some.injEq] at hr
  subst hr
  rw[VR] at hx
  obtain⟨_,_,hv,_⟩:=hx
  exact cR h (hrun _ _ hv) (by rw[VR])
 ·rename_i b len
  cases hb:bt H b with
  |none=>rw[hb] at hr;simp at hr
  |some q=>
   obtain⟨e',sz',d,es⟩:=q
   rw[hb] at hr
   simp only[Option.ite_none_right_eq_some,Option.some.injEq] at hr
   obtain⟨hlen,rfl⟩:=hr
   rw[VR] at hx
   obtain⟨_,_,_,hv,_⟩:=hx
   exact cR h (hrun _ _ hv) (by rw[VR])
 ·simp only[Option.some.injEq] at hr
  subst hr
  rw[VR] at hx
  obtain⟨_,hv⟩:=hx
  exact cR h (hrun _ _ hv) (by rw[VR])
 ·simp only[Option.some.injEq] at hr
  subst hr
  rw[VR] at hx
  obtain⟨_,_,_,_,hv,_⟩:=hx
  exact cR h (hrun _ _ hv) (by rw[VR])
theorem IF {x:Operand} {x':eO} {t:TypeId} {s:ByteArray} (ho:o.op= .call { callee:= .builtin .len,args:=#[x],argTypes:=#[t] }) (ht:P.underlying t=some .string) (h:dy w0 c) (hF:FR c fr a.tmps) (h1:cQ x=some x')
 (ex:ev fr x'= .sc (.string s)):eU P o a w0 c id (.sc (.int .i64 s.size)) c.H:=by
 have hx:=gY hF h1
 rw[ex,VR] at hx
 refine cR h (v:= .int .i64 s.size) ?_ (by rw[VR])
 unfold execOp
 simp[ho,resolve,invoke,builtin,Builtin.len_,hx,run_underlying ht,goInt]
theorem MU {t:TypeId} {x i:Operand} {x' i':eO} {s:ByteArray} {kk:IntKind} {j:Int} (ho:o.op= .index t x i) (ht:P.underlying t=some .string) (h:dy w0 c) (hF:FR c fr a.tmps) (h1:cQ x=some x') (h2:cQ i=some i')
 (ex:ev fr x'= .sc (.string s)) (ei:ev fr i'= .sc (.int kk j)) (h0:0<=j) (hj:j<s.size):eU P o a w0 c id (.sc (.int .u8 (s.data.toList.getD j.toNat 0).toNat)) c.H:=by
 have hx:=gY hF h1
 have hi:=gY hF h2
 rw[ex,VR] at hx
 rw[ei,VR] at hi
 refine cR h (v:= .int .u8 (s.data.toList.getD j.toNat 0).toNat) ?_ (by rw[VR])
 have hlt:j.toNat<s.size:=by omega
 have hlt':j.toNat<s.data.size:=hlt
 have hg:s[j.toNat]?=some (s.data.toList.getD j.toNat 0):=by
  rw[getElem?_pos s j.toNat hlt]
  have e:s.data.toList.getD j.toNat 0=s.data[j.toNat]:=by
   rw[List.getD,Array.getElem?_toList,Array.getElem?_eq_getElem hlt'];rfl
  rw[e]
  rfl
 unfold execOp
 simp[ho,hx,hi,Instr.index,run_underlying ht,asIntOf,h0,hg]
theorem vy (w:World) (d:Nat) {t e:TypeId} (ht:P.underlying t=some (.pointer e)) (p:Option Addr):(Op.equalIn (d+1) t (.pointer p) (.pointer none)).run P w= .ok p.isNone w:=by
 cases p<;>simp[Op.equalIn,run_underlying ht]
theorem sq (w:World) (d:Nat) {t e:TypeId} (ht:P.underlying t=some (.slice e)) (p:Option Addr) (n m:Nat):(Op.equalIn (d+1) t (.slice p n m) (.slice none 0 0)).run P w= .ok p.isNone w:=by
 cases p<;>simp[Op.equalIn,run_underlying ht]
theorem wg {neg:Bool} {op:BinOp} {t yt e:TypeId} {x y:Operand} {x':eO} {r:AV} (ho:o.op= .binOp op t x y yt) (ht:P.underlying t=some (.pointer e)) (hop:op=if neg then .neq else .eql) (h:dy w0 c) (hF:FR c fr a.tmps) (h1:cQ x=some x')
 (hy:y= .const (.pointer none)) (hr:(match ev fr x' with| .pt _ _ _ _=>some (AV.sc (.bool neg),(none:Option (Nat×fH)))| .ip _ _ _ _ _=>some (.sc (.bool neg),none)| .sc (.pointer none)=>some (.sc (.bool !neg),none)|_=>none)=some (r,u)):eU P o a w0 c id r c.H/\u=none:=by
 have hx:=gY hF h1
 subst hop hy
 have key:∀(p:Option Addr),a.eval x= .pointer p->(execOp a.eval o).run P c.w= .ok (.value (.bool (if neg then !p.isNone else p.isNone))) c.w:=by
  intro p hp
  have he:(Op.equal t (.pointer p) (.pointer none)).run P c.w= .ok p.isNone c.w:=vy c.w 9999 ht p
  have e1:(binOp .eql t (.pointer p) (.pointer none))=(do pure (.bool (<-Op.equal t (.pointer p) (.pointer none)))):=rfl
  have e2:(binOp .neq t (.pointer p) (.pointer none))=(do pure (.bool (!(<-Op.equal t (.pointer p) (.pointer none))))):=rfl
  have ey:a.eval (.const (.pointer none))= .pointer none:=rfl
  unfold execOp
  cases neg
  ·simp only[ho,hp,ey,eqGuard_at_pointer,e1,Bool.false_eq_true,if_false,Sem.run_bind,Sem.run_pure,Result.andThen_ok,he]
  ·simp only[ho,hp,ey,eqGuard_at_pointer,e2,if_true,Sem.run_bind,Sem.run_pure,Result.andThen_ok,he]
 generalize ev fr x'=A at hr hx
 split at hr<;>simp only[Option.some.injEq,Prod.mk.injEq,reduceCtorEq] at hr
 ·obtain⟨rfl,rfl⟩:=hr
  rw[VR] at hx
  obtain⟨_,_,ad,hv,_⟩:=hx
  exact⟨cR h (key _ hv) (by rw[VR];cases neg<;>rfl),rfl⟩
 ·obtain⟨rfl,rfl⟩:=hr
  rw[VR] at hx
  obtain⟨_,_,blk,o',hv,_⟩:=hx
  exact⟨cR h (key _ hv) (by rw[VR];cases neg<;>rfl),rfl⟩
 ·obtain⟨rfl,rfl⟩:=hr
  rw[VR] at hx
  exact⟨cR h (key _ hx) (by rw[VR];cases neg<;>rfl),rfl⟩
theorem wh {neg:Bool} {op:BinOp} {t yt e:TypeId} {x y:Operand} {x':eO} {q:Option Bool} (ho:o.op= .binOp op t x y yt) (ht:P.underlying t=some (.slice e)) (hop:op=if neg then .neq else .eql) (h:dy w0 c) (hH:c.H=bt H) (hF:FR c fr a.tmps) (h1:cQ x=some x')
 (hy:y= .const (.slice none 0 0)) (hr:uo H (ev fr x')=some q):eU P o a w0 c id (sd neg q) c.H:=by
 have hx:=gY hF h1
 subst hop hy
 have key:∀(p:Option Addr) (n m:Nat),a.eval x= .slice p n m->(execOp a.eval o).run P c.w= .ok (.value (.bool (if neg then !p.isNone else p.isNone))) c.w:=by
  intro p n m hp
  have he:(Op.equal t (.slice p n m) (.slice none 0 0)).run P c.w= .ok p.isNone c.w:=sq c.w 9999 ht p n m
  have e1:(binOp .eql t (.slice p n m) (.slice none 0 0))=(do pure (.bool (<-Op.equal t (.slice p n m) (.slice none 0 0)))):=rfl
  have e2:(binOp .neq t (.slice p n m) (.slice none 0 0))=(do pure (.bool (!(<-Op.equal t (.slice p n m) (.slice none 0 0))))):=rfl
  have ey:a.eval (.const (.slice none 0 0))= .slice none 0 0:=rfl
  unfold execOp
  cases neg
  ·simp only[ho,hp,ey,eqGuard_at_slice,e1,Bool.false_eq_true,if_false,Sem.run_bind,Sem.run_pure,Result.andThen_ok,he]
  ·simp only[ho,hp,ey,eqGuard_at_slice,e2,if_true,Sem.run_bind,Sem.run_pure,Result.andThen_ok,he]
 have some':∀(p:Option Addr) (n m:Nat),a.eval x= .slice p n m->p.isNone=false->eU P o a w0 c id (sd neg (some false)) c.H:=by
  intro p n m hp hn
  refine cR h (key p n m hp) ?_
  rw[hn];unfold sd;rw[VR]
 have any':∀(p:Option Addr) (n m:Nat),a.eval x= .slice p n m->eU P o a w0 c id (sd neg none) c.H:=by
  intro p n m hp
  refine cR h (key p n m hp) ?_
  unfold sd;rw[VR]
  exact⟨_,rfl⟩
 generalize ev fr x'=A at hr hx
 unfold uo at hr
 split at hr
 ·split at hr
  ·simp only[Option.some.injEq] at hr;subst hr
   rw[VR] at hx
   obtain⟨p,cap,hv,_⟩:=hx
   exact any' _ _ _ hv
  ·simp only[Option.some.injEq] at hr;subst hr
   rename_i hne
   rw[VR] at hx
   obtain⟨p,cap,hv,_,hor⟩:=hx
   rcases hor with h0|⟨blk,o',rfl,_⟩
   ·exact absurd h0 hne
   ·exact some' _ _ _ hv rfl
 ·rename_i b len
  split at hr
  ·rename_i e' sz d es hb
   split at hr
   ·rename_i hl
    simp only[Option.some.injEq] at hr;subst hr
    rw[VR] at hx
    obtain⟨hU,p,cap,hv,hrr⟩:=hx
    rw[<-hH] at hb
    obtain⟨_,h2⟩:=hrr _ _ _ _ hb
    rcases h2 hl.1 with⟨hρ,_,_⟩|⟨blk,o',z,_,rfl,_⟩
    ·obtain⟨_,_,hrow⟩:=h.kO b _ _ _ _ hb (.inl hρ)
     rcases hrow with⟨_,h0⟩|⟨_,_,_,hρ',_⟩
     ·subst h0;have:=hl.1;simp at this;omega
     ·rw[hρ] at hρ';cases hρ'
    ·exact some' _ _ _ hv rfl
   ·simp only[Option.some.injEq] at hr;subst hr
    rw[VR] at hx
    obtain⟨hU,p,cap,hv,hrr⟩:=hx
    exact any' _ _ _ hv
  ·simp only[Option.some.injEq] at hr;subst hr
   rw[VR] at hx
   obtain⟨hU,p,cap,hv,hrr⟩:=hx
   exact any' _ _ _ hv
 ·simp only[Option.some.injEq] at hr;subst hr
  rw[VR] at hx
  refine cR h (key _ _ _ hx) ?_
  unfold sd;rw[VR];cases neg<;>rfl
 ·simp only[Option.some.injEq] at hr;subst hr
  rw[VR] at hx
  obtain⟨p,hv⟩:=hx
  exact any' _ _ _ hv
 ·simp only[Option.some.injEq] at hr;subst hr
  rw[VR] at hx
  obtain⟨_,_,p,cap,hv,_⟩:=hx
  exact any' _ _ _ hv
 ·simp at hr
end
end Go.cw
/- Parts of slices; copies; equal cells. -/
namespace Go.cw
open Go.RowKit
section
variable {P:Program} {o:Oper} {a:Act} {w0:World} {c:Cx} {id:Nat} {fr:Fr} {H:Hp} {lop:df} {r:AV} {u:Option (Nat×fH)}
theorem zD {lo:Option Operand} {lo':Option eO} {d l:Nat} (hF:FR c fr a.tmps) (h1:vq lo=some lo') (h:lB d (lo'.map (ev fr))=some l):
 (lo.map a.eval=none/\l=d)\/∃k j,lo.map a.eval=some (.int k j)/\0<=j/\l=j.toNat:=by
 cases lo with
 |none=>
  simp only[vq,Option.some.injEq] at h1
  subst h1
  simp only[Option.map_none,lB,Option.some.injEq] at h
  exact .inl ⟨rfl,h.symm⟩
 |some x=>
  simp only[vq,Option.map_eq_some_iff] at h1
  obtain⟨x',h1,rfl⟩:=h1
  have hv:=gY hF h1
  simp only[Option.map_some] at h ⊢
  generalize ev fr x'=A at h hv
  unfold lB at h
  split at h
  ·rename_i he;cases he
  ·rename_i k j he
   simp only[Option.some.injEq] at he
   subst he
   rw[VR] at hv
   simp only[Option.ite_none_right_eq_some,Option.some.injEq] at h
   exact .inr ⟨k,j,by rw[hv],h.1,h.2.symm⟩
  ·simp at h
open Go in
theorem RC {t e:TypeId} {sz:Nat} (ht:P.underlying t=some (.slice e)) (hsz:kq P e=some sz) (w:World) {ad:Option Addr} {len cap l h:Nat} (hc:len<=cap) {lo hi:Option Value}
 (hl:(lo=none/\l=0)\/∃k j,lo=some (.int k j)/\0<=j/\l=j.toNat) (hh:(hi=none/\h=len)\/∃k j,hi=some (.int k j)/\0<=j/\h=j.toNat) (h1:l<=h) (h2:h<=len):
 (Instr.sliceAt t (.slice ad len cap) lo hi none).run P w= .ok (sliced ad l h cap sz) w:=by
 have he:P.elem t=e:=by simp[Program.elem,ht]
 have ht':P.underlying t=some (.slice (P.elem t)):=by rw[he];exact ht
 rw[run_sliceAt_slice w t _ _ _ _ ht']
 have hs:∀w,(sizeOf (P.elem t)).run P w= .ok sz w:=fun w=>by rw[he];exact run_sizeOf hsz w
 rcases hl with⟨rfl,rfl⟩|⟨k,j,rfl,hj,rfl⟩<;>rcases hh with⟨rfl,rfl⟩|⟨k2,j2,rfl,hj2,rfl⟩
 ·rw[run_slice_all w t ad h cap ht',hs];rfl
 ·rw[run_slice_h w t ad len cap ht' k2 j2 hj2 (by omega),hs];rfl
 ·rw[run_slice_l w t ad h cap ht' k j hj (by omega),hs];rfl
 ·rw[run_slice_lh w t ad len cap ht' k k2 j j2 hj (by omega) (by omega),hs];rfl
theorem yy {t:TypeId} {n:Nat} (h:PL P t=some n):n<=65/\∃e,P.underlying t=some (.array n e)/\kq P e=some 1:=by
 unfold PL at h
 split at h
 ·rename_i m e p ht hp
  simp only[Option.ite_none_right_eq_some,Option.some.injEq] at h
  obtain⟨⟨_,hk,_,_⟩,rfl⟩:=h
  exact⟨by omega,e,ht,hk⟩
 ·cases h
theorem MT {t:TypeId} {x i:Operand} {x' i':eO} {n:Nat} {r:AV} (ho:o.op= .indexAddr t x i) (har:PL P t=some n)
 (h:dy w0 c) (hH:c.H=bt H) (hF:FR c fr a.tmps) (h1:cQ x=some x') (h2:cQ i=some i') (hr:DG H n (ev fr x') (ev fr i')=some r):eU P o a w0 c id r c.H:=by
 have hx:=gY hF h1
 have hi:=gY hF h2
 obtain⟨h65,e,ht,hk⟩:=yy har
 generalize ev fr x'=A at hr hx
 generalize ev fr i'=B at hr hi
 unfold DG at hr
 split at hr
 ·rename_i b len kk j
  rw[VR] at hi
  split at hr
  ·rename_i e' sz d es hb
   simp only[Option.ite_none_right_eq_some,Option.some.injEq] at hr
   obtain⟨⟨rfl,hlen,rfl,h0,hl⟩,rfl⟩:=hr
   rw[VR] at hx
   obtain⟨hU,hi0,ad,hv,hr⟩:=hx
   rw[<-hH] at hb
   obtain⟨hle,hr⟩:=hr _ _ _ _ hb
   obtain⟨hz,blk,off,z,hρ,rfl⟩:=hr hlen
   have hrun:(execOp a.eval o).run P c.w= .ok (.value (.pointer (some (Addr.add ⟨blk,off+0 * 1+0,none⟩ (j.toNat * 1))))) c.w:=by
    unfold execOp
    simp[ho,hv,hi,Instr.indexAt,Instr.sureAddr,asIntOf,run_underlying ht,h0,hl,run_sizeOf hk]
   refine cR h hrun ?_
   rw[VR,Addr.add_lit]
   refine⟨hU,by omega,_,rfl,fun e2 sz2 d2 es2 he2=> ?_⟩
   rw[hb] at he2
   simp only[Option.some.injEq,fH.row.injEq] at he2
   obtain⟨rfl,rfl,rfl,rfl⟩:=he2
   exact⟨hle,fun _=>⟨hz,blk,off,z,hρ,by simp⟩⟩
  ·cases hr
 ·cases hr
open Go in
theorem MZ {t:TypeId} {x y:Operand} {x' y':eO} {n:Nat} {r:AV} (ho:o.op= .slice t x (some y) none none) (har:PL P t=some n)
 (h:dy w0 c) (hH:c.H=bt H) (hF:FR c fr a.tmps) (h1:cQ x=some x') (h2:cQ y=some y') (hr:EY H n (ev fr x') (ev fr y')=some r):eU P o a w0 c id r c.H:=by
 have hx:=gY hF h1
 have hi:=gY hF h2
 obtain⟨h65,e,ht,hk⟩:=yy har
 generalize ev fr x'=A at hr hx
 generalize ev fr y'=B at hr hi
 unfold EY at hr
 split at hr
 ·rename_i b len kk j
  rw[VR] at hi
  split at hr
  ·rename_i e' sz d es hb
   simp only[Option.ite_none_right_eq_some,Option.some.injEq] at hr
   obtain⟨⟨rfl,hlen,rfl,h0,hl⟩,rfl⟩:=hr
   rw[VR] at hx
   obtain⟨hU,hi0,ad,hv,hr⟩:=hx
   rw[<-hH] at hb
   obtain⟨hle,hr⟩:=hr _ _ _ _ hb
   obtain⟨hz,blk,off,z,hρ,rfl⟩:=hr hlen
   obtain⟨_,_,hor⟩:=h.kO b _ _ _ _ hb (.inr hz)
   rcases hor with⟨h3,_⟩|⟨blk2,off2,z2,hρ2,_,⟨arr,harr,hsz,_⟩,hlz,_⟩
   ·rw[hρ] at h3;cases h3
   rw[hρ] at hρ2;cases hρ2
   have al:P.arrayLen t=len:=by simp[Program.arrayLen,ht]
   have el:P.elem t=e:=by simp[Program.elem,ht]
   have hrun:(execOp a.eval o).run P c.w= .ok (.value (slicedAt ⟨blk,off+0 * 1+0,none⟩ j.toNat len len 1)) c.w:=by
    have:=run_sliceAt_array_l c.w t ⟨blk,off+0 * 1+0,none⟩ (by rw[al,el];exact ht) kk j h0 (by rw[al];omega)
    rw[el,run_sizeOf hk,al] at this
    unfold execOp
    simp only[ho,hv,hi,Option.map_none,Option.map_some,Sem.run_bind,this,Result.andThen_ok,Sem.run_pure]
   refine cR h hrun ?_
   unfold slicedAt
   rw[if_neg (by omega),Addr.add_lit,VR]
   refine⟨hU,by omega,_,_,rfl,Nat.le_refl _,fun e2 sz2 d2 es2 he2=> ?_⟩
   rw[hb] at he2
   simp only[Option.some.injEq,fH.row.injEq] at he2
   obtain⟨rfl,rfl,rfl,rfl⟩:=he2
   refine⟨hle,fun _=>⟨.inr ⟨blk,off,z,hρ,by simp⟩, .inr ⟨blk,off,z,off+j.toNat,hρ,by simp,by omega,by rw[Nat.mul_one] at hlz ⊢;omega,by unfold maxLen;omega,hz⟩⟩⟩
  ·cases hr
 ·cases hr
open Go in
theorem RD {t e:TypeId} {sz:Nat} (ht:P.underlying t=some (.slice e)) (hsz:kq P e=some sz) (w:World) {ad:Option Addr} {len cap:Nat} {k k2:IntKind} {i:Int} (h0:0<=i) (h1:i.toNat<=cap):
 (Instr.sliceAt t (.slice ad len cap) none (some (.int k i)) (some (.int k2 i))).run P w= .ok (sliced ad 0 i.toNat i.toNat sz) w:=by
 have he:P.elem t=e:=by simp[Program.elem,ht]
 have ht':P.underlying t=some (.slice (P.elem t)):=by rw[he];exact ht
 rw[run_sliceAt_slice w t _ _ _ _ ht']
 have hs:∀w,(sizeOf (P.elem t)).run P w= .ok sz w:=fun w=>by rw[he];exact run_sizeOf hsz w
 rw[run_slice_hm w t ad len cap ht' k k2 i i h0 (Int.le_refl _) (by omega),hs];rfl
theorem M1 {t e:TypeId} {sz:Nat} {x y z:Operand} {x' y' z':eO} (ho:o.op= .slice t x none (some y) (some z)) (ht:P.underlying t=some (.slice e)) (hsz:kq P e=some sz) (h:dy w0 c) (hH:c.H=bt H) (hF:FR c fr a.tmps)
 (h1:cQ x=some x') (h2:cQ y=some y') (h3:cQ z=some z') (hr:J3 sz (ev fr y') (ev fr z') (ev fr x')=some r):eU P o a w0 c id r c.H:=by
 have hx:=gY hF h1
 have hy:=gY hF h2
 have hz:=gY hF h3
 generalize ev fr x'=A at hr hx
 generalize ev fr y'=B at hr hy
 generalize ev fr z'=C at hr hz
 unfold J3 at hr
 split at hr
 ·rename_i k i k2 j s d es
  simp only[Option.ite_none_right_eq_some,Option.some.injEq] at hr
  obtain⟨⟨rfl,rfl,g1,g2⟩,rfl⟩:=hr
  rw[VR] at hx
  rw[VR] at hy
  rw[VR] at hz
  obtain⟨ad,cap,hv,hc,hor⟩:=hx
  have hrun:(execOp a.eval o).run P c.w= .ok (.value (sliced ad 0 i.toNat i.toNat s)) c.w:=by
   have:=RD ht hsz c.w (ad:=ad) (len:=es.length) (cap:=cap) (k:=k) (k2:=k2) g1 (by omega)
   unfold execOp
   simp only[ho,hv,hy,hz,Option.map_none,Option.map_some,Sem.run_bind,this,Result.andThen_ok,Sem.run_pure]
  refine cR h hrun ?_
  rw[VR]
  have hlen:(es.take i.toNat).length=i.toNat:=by rw[List.length_take];omega
  refine⟨_,_,by unfold sliced;rw[hlen,Nat.sub_zero],by rw[hlen];omega, ?_⟩
  by_cases h0:i.toNat=0
  ·left;rw[h0];rfl
  ·rcases hor with h0'|⟨blk,off,rfl,hz,hm,hrow⟩
   ·subst h0';simp at g2;omega
   ·refine .inr ⟨blk,off, ?_,hz,hm, ?_⟩
    ·rw[if_neg h0];simp[Addr.add_lit]
    ·have:=jK hrow 0 i.toNat (by omega)
     simpa using this
 ·simp at hr
theorem zk {t e:TypeId} {sz:Nat} {x:Operand} {x':eO} {lo hi:Option Operand} {lo' hi':Option eO} (ho:o.op= .slice t x lo hi none) (ht:P.underlying t=some (.slice e)) (hsz:kq P e=some sz) (h:dy w0 c) (hH:c.H=bt H) (hF:FR c fr a.tmps)
 (h1:cQ x=some x') (h2:vq lo=some lo') (h3:vq hi=some hi') (hr:vJ H sz (lo'.map (ev fr)) (hi'.map (ev fr)) (ev fr x')=some r):eU P o a w0 c id r c.H:=by
 have hx:=gY hF h1
 have hrun:∀ad len cap l hh,a.eval x= .slice ad len cap->len<=cap->lB 0 (lo'.map (ev fr))=some l->lB len (hi'.map (ev fr))=some hh->l<=hh->hh<=len->(execOp a.eval o).run P c.w= .ok (.value (sliced ad l hh cap sz)) c.w:=by
  intro ad len cap l hh hv hc e1 e2 g1 g2
  have:=RC ht hsz c.w hc (zD hF h2 e1) (zD hF h3 e2) g1 g2 (ad:=ad)
  unfold execOp
  simp only[ho,hv,Option.map_none,Sem.run_bind,this,Result.andThen_ok,Sem.run_pure]
 generalize ev fr x'=A at hr hx
 unfold vJ at hr
 split at hr
 ·rename_i s d es
  split at hr
  ·rename_i l hh e1 e2
   simp only[Option.ite_none_right_eq_some,Option.some.injEq] at hr
   obtain⟨⟨rfl,g1,g2⟩,rfl⟩:=hr
   rw[VR] at hx
   obtain⟨ad,cap,hv,hc,hor⟩:=hx
   refine cR h (hrun _ _ _ _ _ hv hc e1 e2 g1 g2) ?_
   rw[VR]
   have hlen:((es.drop l).take (hh - l)).length=hh - l:=by simp;omega
   refine⟨_,_,by unfold sliced;rw[hlen],by rw[hlen];omega, ?_⟩
   by_cases h0:hh=l
   ·subst h0;exact .inl (by simp)
   ·rcases hor with h0'|⟨blk,off,rfl,hz,hm,hrow⟩
    ·subst h0';simp at g2;omega
    ·refine .inr ⟨blk,off+l * s, ?_,hz,hm,jK hrow l (hh - l) (by omega)⟩
     rw[if_neg (by omega)]
     simp[Addr.add_lit]
  ·simp at hr
 ·rename_i b len
  split at hr
  ·rename_i e' s d es l hh hb e1 e2
   simp only[Option.ite_none_right_eq_some,Option.some.injEq] at hr
   obtain⟨⟨hlen,rfl,g1,g2⟩,rfl⟩:=hr
   rw[VR] at hx
   obtain⟨hU,ad,cap,hv,hrr⟩:=hx
   rw[<-hH] at hb
   obtain⟨hle,hrr⟩:=hrr _ _ _ _ hb
   obtain⟨_,hspos,hrow⟩:=h.kO b _ _ _ _ hb (vI (hrr hlen))
   have hcap:len<=cap:=by
    rcases hrr hlen with⟨hρ,_,hc0⟩|⟨blk,off,z,hρ,_,hc,_⟩
    ·rcases hrow with⟨_,h0⟩|⟨_,_,_,hρ',_⟩
     ·subst h0;simp at hlen;omega
     ·rw[hρ] at hρ';cases hρ'
    ·exact hc
   refine cR h (hrun _ _ _ _ _ hv hcap e1 e2 g1 g2) ?_
   rw[VR]
   refine⟨hU,by omega,_,_,rfl,by omega,fun e2 sz2 d2 es2 he2=> ?_⟩
   rw[hb] at he2
   simp only[Option.some.injEq,fH.row.injEq] at he2
   obtain⟨rfl,rfl,rfl,rfl⟩:=he2
   refine⟨hle,fun _=>⟨?_, ?_⟩⟩
   ·by_cases h0:hh=l
    ·exact .inl (by omega)
    ·rcases hrr hlen with⟨hρ,_,hc0⟩|⟨blk,off,z,hρ,rfl,hc,_⟩
     ·omega
     ·refine .inr ⟨blk,off,z,hρ, ?_⟩
      rw[if_neg (by omega)]
      simp[Addr.add_lit]
   ·rcases hrr hlen with⟨hρ,rfl,hc0⟩|⟨blk,off,z,hρ,rfl,hc,hcz,hcm⟩
    ·refine .inl ⟨hρ, ?_,by omega⟩
     split<;>rfl
    ·refine .inr ⟨blk,off,z,if cap=l then off else off+l * s,hρ, ?_, ?_, ?_,by omega⟩
     ·by_cases h8:cap=l<;>simp[h8,Addr.add_lit]
     ·split<;>omega
     ·have h9:l * s+(cap - l) * s=cap * s:=by rw[<-Nat.add_mul];congr 1;omega
      split
      ·rename_i h8;rw[h8,Nat.sub_self,Nat.zero_mul];omega
      ·omega
  ·simp at hr
 ·rename_i b len l0 n
  split at hr
  ·rename_i e' s d es l hh hb e1 e2
   simp only[Option.ite_none_right_eq_some,Option.some.injEq] at hr
   obtain⟨⟨hlen,rfl,g1,g2⟩,rfl⟩:=hr
   rw[VR] at hx
   obtain⟨hU,hln,ad,cap,hv,hc,hrr⟩:=hx
   rw[<-hH] at hb
   obtain⟨hle,hrr⟩:=hrr _ _ _ _ hb
   refine cR h (hrun _ _ _ _ _ hv hc e1 e2 g1 g2) ?_
   rw[VR]
   refine⟨hU,by omega,_,_,rfl,by omega,fun e2 sz2 d2 es2 he2=> ?_⟩
   rw[hb] at he2
   simp only[Option.some.injEq,fH.row.injEq] at he2
   obtain⟨rfl,rfl,rfl,rfl⟩:=he2
   refine⟨hle,fun _=>⟨?_, ?_⟩⟩
   ·by_cases h0:hh=l
    ·exact .inl (by omega)
    ·rcases(hrr hlen).1 with h00|⟨blk,off,z,hρ,rfl⟩
     ·omega
     ·refine .inr ⟨blk,off,z,hρ, ?_⟩
      rw[if_neg (by omega)]
      simp only[Option.map_some,Addr.add_lit,Option.some.injEq,Addr.mk.injEq,and_true,true_and]
      rw[Nat.add_mul];omega
   ·rcases(hrr hlen).2 with⟨hρ,rfl,hc0⟩|⟨blk,off,z,o2,hρ,rfl,ho2,hcz,hcm⟩
    ·refine .inl ⟨hρ, ?_,by omega⟩
     split<;>rfl
    ·refine .inr ⟨blk,off,z,if cap=l then o2 else o2+l * s,hρ, ?_, ?_, ?_,by omega⟩
     ·by_cases h8:cap=l<;>simp[h8,Addr.add_lit]
     ·split<;>omega
     ·have h9:l * s+(cap - l) * s=cap * s:=by rw[<-Nat.add_mul];congr 1;omega
      split
      ·rename_i h8;rw[h8,Nat.sub_self,Nat.zero_mul];omega
      ·omega
  ·simp at hr
 ·split at hr
  ·rename_i l hh e1 e2
   simp only[Option.ite_none_right_eq_some,Option.some.injEq] at hr
   obtain⟨⟨rfl,rfl⟩,rfl⟩:=hr
   rw[VR] at hx
   refine cR h (hrun _ _ _ _ _ hx (Nat.le_refl _) e1 e2 (Nat.le_refl _) (Nat.le_refl _)) ?_
   rw[VR];rfl
  ·simp at hr
 ·simp at hr
theorem BF (w:World) (dT sT ty elem:TypeId) {sz:Nat} (g o dLen dCap:Nat) (ad:Addr) (sLen sCap:Nat) (cur:Array Value) (t:TypeId) (cs:List Value)
 (hu:P.underlying dT=some (.slice elem)) (hs:kq P elem=some sz)
 (hg:w.heap[g]?=some (.cells cur t (0,0))) (hn:cs.length=Nat.min sLen dLen * sz)
 (hsrc:∀j v,cs[j]?=some v->w.cell? (ad.add j)=some v) (hfit:o+cs.length<=cur.size) (h1:∀v∈cs,v.oneCell'=true):
 (Builtin.copy_ #[dT,sT] ty #[.slice (some ⟨g,o,none⟩) dLen dCap, .slice (some ad) sLen sCap]).run P w=
  .ok (goInt (Nat.min sLen dLen)) (w.setRow g (cur.toList.take o++cs++cur.toList.drop (o+cs.length)).toArray):=by
 have hl:=run_firstCells_some (P:=P) w sz (Nat.min sLen dLen) ad sLen sCap cs hn hsrc
 have hst:=run_storeCells_at P g o t cs 0 cur w hg (by simpa using hfit) h1
 simp[Builtin.copy_,run_underlying hu,Builtin.lenOf,run_sizeOf hs,hl,hst]
theorem vx (w:World) (dT sT ty elem:TypeId) {sz:Nat} (dp sp:Option Addr) (dLen dCap sLen sCap:Nat) (hu:P.underlying dT=some (.slice elem)) (hs:kq P elem=some sz) (hn:Nat.min sLen dLen=0):
 (Builtin.copy_ #[dT,sT] ty #[.slice dp dLen dCap, .slice sp sLen sCap]).run P w= .ok (goInt 0) w:=by
 have hl:∀(x:Addr),(loadCells x 0).run P w= .ok #[] w:=fun x=>by simpa using run_loadCells_list (P:=P) w x [] (by simp)
 cases dp<;>cases sp<;>simp[Builtin.copy_,run_underlying hu,Builtin.lenOf,Builtin.firstCells,run_sizeOf hs,hn,storeCells,hl]
theorem MO {x y:Operand} {x' y':eO} {t t2 e:TypeId} {sz:Nat} (ho:o.op= .call { callee:= .builtin .copy,args:=#[x,y],argTypes:=#[t,t2] }) (ht:P.underlying t=some (.slice e)) (hsz:kq P e=some sz)
 (h:dy w0 c) (hH:c.H=bt H) (hF:FR c fr a.tmps) (h1:cQ x=some x') (h2:cQ y=some y') {b len:Nat} (hx':ev fr x'= .sl b len) {xs:List AV} (he:ic H (ev fr y')=some xs) (hs:BP H sz (ev fr y')=true)
 {e':TypeId} {d:AV} {es:List AV} (hb:bt H b=some (.row e' sz d es)) (hlen:es.length=len):
 eU P o a w0 c id (.sc (.int .i64 (Nat.min xs.length len:Nat))) (fU c.H b (some (.row e' sz d (xs.take (Nat.min xs.length len)++es.drop (Nat.min xs.length len))))):=by
 have hx:=gY hF h1
 rw[hx'] at hx
 obtain⟨sp,scap,hyv,hrow⟩:=pM h hH (gY hF h2) he hs
 have hcall:∀{v:Value} {W:World} {dp:Option Addr} {dcap:Nat},a.eval x= .slice dp len dcap->(Builtin.copy_ #[t,t2] o.type #[.slice dp len dcap, .slice sp xs.length scap]).run P c.w= .ok v W->(execOp a.eval o).run P c.w= .ok (.value v) W:=by
  intro v W dp dcap hv hr
  unfold execOp
  simp only[ho,resolve,invoke,builtin,Sem.run_bind,Sem.run_pure,Result.andThen_ok,List.map_toArray,List.map_cons,List.map_nil,hv,hyv,hr]
 have hxx:=hx
 rw[VR] at hx
 obtain⟨hU,dp,dcap,hv,hrr⟩:=hx
 have hb':=hb
 rw[<-hH] at hb'
 obtain⟨hle,hrr⟩:=hrr _ _ _ _ hb'
 obtain⟨_,hz,hor⟩:=h.kO b _ _ _ _ hb' (vI (hrr hlen))
 have hmn:Nat.min xs.length len<=xs.length/\Nat.min xs.length len<=len:=⟨Nat.min_le_left _ _,Nat.min_le_right _ _⟩
 generalize hm:Nat.min xs.length len=m at hmn ⊢
 by_cases hm0:m=0
 ·subst hm0
  have hsame:fU c.H b (some (.row e' sz d (xs.take 0++es.drop 0)))=c.H:=by
   funext y
   by_cases hy:y=b
   ·subst hy;simp[hb']
   ·exact eV _ _ hy
  rw[hsame]
  exact cR h (hcall hv (vx c.w t t2 o.type e dp sp len dcap xs.length scap ht hsz hm)) (by rw[VR];rfl)
 rcases hor with⟨_,h0⟩|⟨blk,off,z,hρ,hlow,⟨arr,harr,hsz'⟩,hlz,hold⟩
 ·subst h0;simp at hlen;omega
 rcases hrr hlen with⟨h0,_⟩|⟨blk1,off1,z1,hρ1,rfl,hcap,_,_⟩
 ·rw[hρ] at h0;cases h0
 rw[hρ] at hρ1;cases hρ1
 rcases hrow with h0|⟨sb,so,rfl,hsrow⟩
 ·subst h0;simp at hmn;omega
 have hsrow':=jK hsrow 0 m (by omega)
 simp only[List.drop_zero,Nat.zero_mul,Nat.add_zero] at hsrow'
 obtain⟨news,n1,n2,n3,n4⟩:=lR hsrow'
 have hml:(xs.take m).length=m:=by simp;omega
 rw[hml] at n1 n4
 have hmsz:m * sz<=es.length * sz:=Nat.mul_le_mul_right _ (by omega)
 have hrun:=BF (P:=P) c.w t t2 o.type e blk off len dcap ⟨sb,so,none⟩ xs.length scap arr e' news ht hsz harr (by rw[hm];exact n1) (fun j v hj=>by
  rw[Addr.add_lit,n2 j (List.getElem?_eq_some_iff.1 hj).1,hj]) (by omega) n3
 rw[hm] at hrun
 intro K Q hK
 unfold Oper.wp
 rw[hcall hv hrun,Oper.upon_value]
 have hbl:=setRow_heap c.w blk arr (arr.toList.take off++news++arr.toList.drop (off+news.length)).toArray e' (0,0) harr
 have hcell:∀k,k<arr.size->(arr.toList.take off++news++arr.toList.drop (off+news.length)).toArray[k]?=if off<=k/\k<off+m * sz then news[k - off]? else arr[k]?:=by
  intro k hk
  simp only[List.getElem?_toArray,List.append_assoc,List.getElem?_append,List.length_take,Array.length_toList]
  have hmin:min off arr.size=off:=by omega
  rw[hmin]
  by_cases h1:k<off
  ·rw[if_pos h1,if_neg (by omega)];simp[h1]
  ·rw[if_neg h1]
   by_cases h2:k<off+m * sz
   ·rw[if_pos (by omega),if_pos ⟨by omega,h2⟩]
   ·rw[if_neg (by omega),if_neg (by omega),List.getElem?_drop]
    simp
    congr 1
    omega
 have hnl:(xs.take m++es.drop m).length=es.length:=by simp;omega
 obtain⟨p1,p2⟩:=kg (id:=id) (h.put (b:=b) (e:=e') (sz:=sz) d (es:=xs.take m++es.drop m) (w':=c.w.setRow blk (arr.toList.take off++news++arr.toList.drop (off+news.length)).toArray) (blk:=blk) (o:=off) (z:=z) hz
  (.inr ⟨e',d,es,hb', .inl ⟨hnl.symm,hρ⟩⟩) (.inr ⟨_,_,_,hb',hρ⟩) rfl rfl rfl (by simp) (fun k' _ hne=>setRow_other c.w blk k' _ hne) hbl ⟨by simp;omega,fun he=>⟨(hsz'.2 he).1,(hsz'.2 he).2.imp (fun hh=>by simp;omega) (fun hh=>hh)⟩⟩ (by rw[hnl];exact hlz) (fun i hi=>by
   rw[hnl] at hi
   have hisz:i * sz+sz<=es.length * sz:=by rw[<-Nat.succ_mul];exact Nat.mul_le_mul_right _ hi
   by_cases him:i<m
   ·obtain⟨u,u1,u2,u3,u4⟩:=n4 i him
    have hjm:i * sz+sz<=m * sz:=by rw[<-Nat.succ_mul];exact Nat.mul_le_mul_right _ him
    refine⟨u,⟨u1,fun j hj=> ?_,u3⟩, ?_⟩
    ·rw[cell_of_row _ blk _ _ e' (0,0) hbl,hcell _ (by omega),if_pos (by omega),<-u2 j hj]
     congr 1
     omega
    ·have:(xs.take m++es.drop m).getD i .any=(xs.take m).getD i .any:=by
      simp only[List.getD,List.getElem?_append,hml,him,if_true]
     rw[this];exact u4
   ·obtain⟨u,⟨u1,u2,u3⟩,u4⟩:=eC hold i hi
    have hjm:m * sz<=i * sz:=Nat.mul_le_mul_right _ (by omega)
    refine⟨u,⟨u1,fun j hj=> ?_,u3⟩, ?_⟩
    ·rw[cell_of_row _ blk _ _ e' (0,0) hbl,hcell _ (by omega),if_neg (by omega),<-u2 j hj,cell_of_row c.w blk _ arr e' (0,0) harr]
    ·have:(xs.take m++es.drop m).getD i .any=es.getD i .any:=by
      simp only[List.getD,List.getElem?_append,hml,him,if_false,List.getElem?_drop]
      rw[show m+(i - m)=i by omega]
     rw[this];exact u4)) hU
 have hρeq:fU c.ρ b (some (blk,off,z))=c.ρ:=by
  funext x
  by_cases hxb:x=b
  ·subst hxb;simp[hρ]
  ·exact eV _ _ hxb
 rw[hρeq] at p1 p2
 exact hK _ _ _ p1 p2 (by rw[VR];rfl)
theorem vY {v:Value} {sz n:Nat} (hs:v.cells.size=sz) (h0:0<sz) (i j:Nat) (hi:i<n) (hj:j<sz):(Builtin.zeroCells v.cells n).toList[i * sz+j]?=v.cells[j]?:=by
 have hlt:i * sz+j<n * sz:=by
  have:i * sz+sz<=n * sz:=by rw[<-Nat.succ_mul];exact Nat.mul_le_mul_right _ hi
  omega
 have hm:(i * sz+j)%sz=j:=by rw[Nat.mul_comm,Nat.mul_add_mod];exact Nat.mod_eq_of_lt hj
 simp only[Builtin.zeroCells,hs,Array.getElem?_toList,Array.getElem?_map,Array.getElem?_range,hlt,if_true,Option.map_some,hm]
 rw[Array.getElem!_eq_getD,Array.getD]
 simp[hs,hj]
theorem MN {x:Operand} {x':eO} {t e:TypeId} {sz:Nat} {ag:Bool} {z:List Value} (ho:o.op= .call { callee:= .builtin .clear,args:=#[x],argTypes:=#[t] }) (ht:P.underlying t=some (.slice e)) (hz:zT P e=some (sz,ag,z))
 (h:dy w0 c) (hH:c.H=bt H) (hF:FR c fr a.tmps) (h1:cQ x=some x') {b len lo n:Nat} (hx':ev fr x'= .sv b len lo n)
 {e':TypeId} {d:AV} {es:List AV} (hb:bt H b=some (.row e' sz d es)) (hlen:es.length=len) (hln:lo+n<=len):
 eU P o a w0 c id (.dI []) (fU c.H b (some (.row e' sz d (es.take lo++List.replicate n (gO ag z)++es.drop (lo+n))))):=by
 have hx:=gY hF h1
 rw[hx'] at hx
 obtain⟨i0,v,hi0,hv0,sS,_,_,hvc,hzl,hpos,hone,hvr,_⟩:=jT hz
 have hcall:∀{W:World} {dp:Option Addr} {cap:Nat},a.eval x= .slice dp n cap->(Builtin.clear_ #[t] o.type #[.slice dp n cap]).run P c.w= .ok (.tuple #[]) W->(execOp a.eval o).run P c.w= .ok (.value (.tuple #[])) W:=by
  intro W dp cap hv hr
  unfold execOp
  simp only[ho,resolve,invoke,builtin,Sem.run_bind,Sem.run_pure,Result.andThen_ok,List.map_toArray,List.map_cons,List.map_nil,hv,hr]
 rw[VR] at hx
 obtain⟨hU,_,dp,cap,hv,hcap,hrr⟩:=hx
 have hb':=hb
 rw[<-hH] at hb'
 obtain⟨hle,hrr⟩:=hrr _ _ _ _ hb'
 obtain⟨q1,q2⟩:=hrr hlen
 by_cases hn0:n=0
 ·subst hn0
  have hsame:fU c.H b (some (.row e' sz d (es.take lo++List.replicate 0 (gO ag z)++es.drop (lo+0))))=c.H:=by
   funext y
   by_cases hy:y=b
   ·subst hy;simp[hb']
   ·exact eV _ _ hy
  rw[hsame]
  refine cR h (hcall hv ?_) (by rw[VR];exact⟨_,rfl,by rw[cu]⟩)
  cases dp<;>simp[Builtin.clear_,run_underlying ht]
 obtain⟨_,hz1,hor⟩:=h.kO b _ _ _ _ hb' (KC q2)
 clear q2
 rcases hor with⟨_,h0⟩|⟨blk,off,zz,hρ,hlow,⟨arr,harr,hsz'⟩,hlz,hold⟩
 ·subst h0;simp at hlen;omega
 rcases q1 with h0|⟨blk1,off1,z1,hρ1,rfl⟩
 ·exact absurd h0 hn0
 rw[hρ] at hρ1;cases hρ1
 have hvs:v.cells.size=sz:=by rw[hvc];simpa using hzl
 have hnl0:(Builtin.zeroCells v.cells n).toList.length=n * sz:=by rw[Array.length_toList,size_zeroCells,hvs]
 have hbd:(lo+n) * sz<=es.length * sz:=Nat.mul_le_mul_right _ (by omega)
 rw[Nat.add_mul] at hbd
 have h1c:∀u∈(Builtin.zeroCells v.cells n).toList,u.oneCell'=true:=by
  intro u hu
  obtain⟨k,hk,rfl⟩:=List.getElem_of_mem hu
  rw[hnl0] at hk
  have hk2:k=(k /sz) * sz+k%sz:=by rw[Nat.mul_comm];exact(Nat.div_add_mod k sz).symm
  have:=vY (v:=v) hvs hpos (k /sz) (k%sz) (n:=n) (by rw[Nat.div_lt_iff_lt_mul hpos];exact hk) (Nat.mod_lt _ hpos)
  rw[<-hk2] at this
  exact hone (k%sz) _ (by rw[<-this,List.getElem?_eq_getElem])
 have hst:=run_storeCells_at P blk (off+lo * sz) e' (Builtin.zeroCells v.cells n).toList 0 arr c.w harr (by rw[hnl0];omega) h1c
 simp only[Nat.add_zero] at hst
 have hrun:(Builtin.clear_ #[t] o.type #[.slice (some ⟨blk,off+lo * sz,none⟩) n cap]).run P c.w= .ok (.tuple #[]) (c.w.setRow blk (arr.toList.take (off+lo * sz)++(Builtin.zeroCells v.cells n).toList++arr.toList.drop (off+lo * sz+(Builtin.zeroCells v.cells n).toList.length)).toArray):=by
  obtain⟨m,rfl⟩:∃m,n=m+1:=⟨n - 1,by omega⟩
  have hzero:(zeroValue e).run P c.w= .ok v c.w:=by simp[zeroValue,typeInfo,hi0,hv0]
  simp[Builtin.clear_,run_underlying ht,hzero,hst]
 generalize hnews:(Builtin.zeroCells v.cells n).toList=news at hrun hnl0 h1c
 have hnz:∀i j,i<n->j<sz->news[i * sz+j]?=v.cells[j]?:=fun i j hi hj=>by rw[<-hnews];exact vY hvs hpos i j hi hj
 intro K Q hK
 unfold Oper.wp
 rw[hcall hv hrun,Oper.upon_value]
 have hbl:=setRow_heap c.w blk arr (arr.toList.take (off+lo * sz)++news++arr.toList.drop (off+lo * sz+news.length)).toArray e' (0,0) harr
 have hcell:∀k,k<arr.size->(arr.toList.take (off+lo * sz)++news++arr.toList.drop (off+lo * sz+news.length)).toArray[k]?=if off+lo * sz<=k/\k<off+lo * sz+n * sz then news[k - (off+lo * sz)]? else arr[k]?:=by
  intro k hk
  simp only[List.getElem?_toArray,List.append_assoc,List.getElem?_append,List.length_take,Array.length_toList]
  have hmin:min (off+lo * sz) arr.size=off+lo * sz:=by omega
  rw[hmin]
  by_cases h1:k<off+lo * sz
  ·rw[if_pos h1,if_neg (by omega)];simp[h1]
  ·rw[if_neg h1]
   by_cases h2:k<off+lo * sz+n * sz
   ·rw[if_pos (by omega),if_pos ⟨by omega,h2⟩]
   ·rw[if_neg (by omega),if_neg (by omega),List.getElem?_drop]
    simp
    congr 1
    omega
 have hnl:(es.take lo++List.replicate n (gO ag z)++es.drop (lo+n)).length=es.length:=by simp;omega
 obtain⟨p1,p2⟩:=kg (id:=id) (h.put (b:=b) (e:=e') (sz:=sz) d (es:=es.take lo++List.replicate n (gO ag z)++es.drop (lo+n)) (w':=c.w.setRow blk (arr.toList.take (off+lo * sz)++news++arr.toList.drop (off+lo * sz+news.length)).toArray) (blk:=blk) (o:=off) (z:=zz) hz1
  (.inr ⟨e',d,es,hb', .inl ⟨hnl.symm,hρ⟩⟩) (.inr ⟨_,_,_,hb',hρ⟩) rfl rfl rfl (by simp) (fun k' _ hne=>setRow_other c.w blk k' _ hne) hbl ⟨by simp;omega,fun he=>⟨(hsz'.2 he).1,(hsz'.2 he).2.imp (fun hh=>by simp;omega) (fun hh=>hh)⟩⟩ (by rw[hnl];exact hlz) (fun i hi=>by
   rw[hnl] at hi
   have hisz:i * sz+sz<=es.length * sz:=by rw[<-Nat.succ_mul];exact Nat.mul_le_mul_right _ hi
   by_cases him:lo<=i/\i<lo+n
   ·have e1:i * sz=lo * sz+(i - lo) * sz:=by rw[<-Nat.add_mul];congr 1;omega
    have e2:(i - lo) * sz+sz<=n * sz:=by rw[<-Nat.succ_mul];exact Nat.mul_le_mul_right _ (by omega)
    refine⟨v,⟨hvs,fun j hj=> ?_,hone⟩, ?_⟩
    ·rw[cell_of_row _ blk _ _ e' (0,0) hbl,hcell _ (by omega),if_pos (by omega),<-hnz (i - lo) j (by omega) hj]
     congr 1
     omega
    ·have:(es.take lo++List.replicate n (gO ag z)++es.drop (lo+n)).getD i .any=gO ag z:=by
      simp only[List.getD,List.append_assoc,List.getElem?_append,List.length_take,List.length_replicate,List.getElem?_replicate]
      rw[if_neg (by omega),if_pos (by omega),if_pos (by omega)];rfl
     rw[this];exact hvr _
   ·obtain⟨u,⟨u1,u2,u3⟩,u4⟩:=eC hold i hi
    have e3:i<lo->i * sz+sz<=lo * sz:=fun hlt=>by rw[<-Nat.succ_mul];exact Nat.mul_le_mul_right _ hlt
    have e4:lo+n<=i->lo * sz+n * sz<=i * sz:=fun hge=>by rw[<-Nat.add_mul];exact Nat.mul_le_mul_right _ hge
    refine⟨u,⟨u1,fun j hj=> ?_,u3⟩, ?_⟩
    ·rw[cell_of_row _ blk _ _ e' (0,0) hbl,hcell _ (by omega),if_neg (by
      by_cases hlt:i<lo
      ·have:=e3 hlt;omega
      ·have:=e4 (by omega);omega),<-u2 j hj,cell_of_row c.w blk _ arr e' (0,0) harr]
    ·have:(es.take lo++List.replicate n (gO ag z)++es.drop (lo+n)).getD i .any=es.getD i .any:=by
      simp only[List.getD,List.append_assoc,List.getElem?_append,List.length_take,List.length_replicate,List.getElem?_drop]
      by_cases hlt:i<lo
      ·rw[if_pos (by omega)];simp[hlt]
      ·rw[if_neg (by omega),if_neg (by omega)]
       congr 2
       omega
     rw[this];exact u4)) hU
 have hρeq:fU c.ρ b (some (blk,off,zz))=c.ρ:=by
  funext x
  by_cases hxb:x=b
  ·subst hxb;simp[hρ]
  ·exact eV _ _ hxb
 rw[hρeq] at p1 p2
 exact hK _ _ _ p1 p2 (by rw[VR];exact⟨_,rfl,by rw[cu]⟩)
end
end Go.cw
/- Structs and arrays that are compared, cell by cell. -/
namespace Go.cw
open Go.RowKit
def ox:LK->Value->Value->Option Bool
 | .i, .int k a, .int k' b=>if k=k' then some (decide (a=b)) else none
 | .b, .bool a, .bool b=>some (a==b)
 | .s, .string a, .string b=>some (a==b)
 |_,_,_=>none
def qp:List LK->List Value->List Value->Option Bool
 |[],[],[]=>some true
 |l::ls,a::as,b::bs=>match ox l a b,qp ls as bs with
  |some p,some q=>some (p&&q)
  |_,_=>none
 |_,_,_=>none
section
variable {P:Program} {o:Oper} {a:Act} {w0:World} {c:Cx} {id:Nat} {fr:Fr} {H:Hp} {lop:df} {r:AV} {u:Option (Nat×fH)}
theorem IZ {l:LK} {u v:Value} {r:Bool} (h:ox l u v=some r):u.cells=#[u]/\v.cells=#[v]:=by
 unfold ox at h
 split at h<;>first|exact⟨rfl,rfl⟩|simp at h
theorem tB:∀{l:List LK} {A B:List Value} {r:Bool},qp l A B=some r->A.length=l.length/\B.length=l.length
 |[],[],[],_,_=>⟨rfl,rfl⟩
 |[],_::_,_,_,h=>by simp[qp] at h
 |[],[],_::_,_,h=>by simp[qp] at h
 |_::_,[],_,_,h=>by simp[qp] at h
 |_::_,_::_,[],_,h=>by simp[qp] at h
 |l::ls,x::A,y::B,r,h=>by
  simp only[qp] at h
  split at h
  ·rename_i p q h1 h2
   obtain⟨e1,e2⟩:=tB h2
   simp[e1,e2]
  ·simp at h
theorem pN:∀{l q:List LK} {A B:List Value} {r:Bool},qp (l++q) A B=some r->∃r1 r2,qp l (A.take l.length) (B.take l.length)=some r1/\qp q (A.drop l.length) (B.drop l.length)=some r2/\r=(r1&&r2)
 |[],q,A,B,r,h=>⟨true,r,by simp[qp],by simpa using h,by simp⟩
 |x::l,q,[],B,r,h=>by simp[qp] at h
 |x::l,q,_::_,[],r,h=>by simp[qp] at h
 |x::l,q,a::A,b::B,r,h=>by
  simp only[List.cons_append,qp] at h
  split at h
  ·rename_i p s h1 h2
   simp only[Option.some.injEq] at h
   obtain⟨r1,r2,g1,g2,rfl⟩:=pN h2
   refine⟨p&&r1,r2, ?_,by simpa using g2,by rw[<-h,Bool.and_assoc]⟩
   simp only[List.length_cons,List.take_succ_cons,qp,h1,g1]
  ·simp at h
def Sh (P:Program) (t:TypeId) (x:Value):Prop:=∀ag,gX P t=some ag->if ag then ∃vs,x= .agg vs else x.cells=#[x]
theorem GI {t:TypeId} {l:List LK} {s:Nat} {ag:Bool} (hg:gX P t=some ag) (hk:kq P t=some s) (hl:l.length=s) (hag:ag=false->s=1) {xs ys:Array Value} {off:Nat} {r:Bool}
 (h:qp l ((xs.toList.drop off).take s) ((ys.toList.drop off).take s)=some r) (w:World):
 ∃x y,(part t xs off).run P w= .ok x w/\(part t ys off).run P w= .ok y w/\Sh P t x/\Sh P t y/\qp l x.cells.toList y.cells.toList=some r:=by
 unfold part
 simp only[Sem.run_bind,oZ hg,Result.andThen_ok]
 cases ag with
 |true=>
  refine⟨.agg (xs.extract off (off+s)), .agg (ys.extract off (off+s)),by simp[run_sizeOf hk],by simp[run_sizeOf hk],fun ag h=> ?_,fun ag h=> ?_, ?_⟩
  ·rw[hg] at h;cases h;exact⟨_,rfl⟩
  ·rw[hg] at h;cases h;exact⟨_,rfl⟩
  ·simpa[Value.cells,Array.toList_extract,List.extract_eq_take_drop] using h
 |false=>
  have hs:=hag rfl
  subst hs
  match l,hl with
  |[k],_=>
   obtain⟨e1,e2⟩:=tB h
   have g:∀(zs:Array Value),((zs.toList.drop off).take 1).length=1->∃z,zs[off]?=some z/\(zs.toList.drop off).take 1=[z]:=by
    intro zs hz
    simp only[List.length_take,List.length_drop,Array.length_toList] at hz
    refine⟨zs[off]'(by omega),Array.getElem?_eq_getElem (by omega), ?_⟩
    rw[List.drop_eq_getElem_cons (by simp;omega)]
    simp
   obtain⟨x,x1,x2⟩:=g xs e1
   obtain⟨y,y1,y2⟩:=g ys e2
   rw[x2,y2] at h
   have hlf:∃p,ox k x y=some p:=by
    simp only[qp] at h
    split at h
    ·rename_i p q h1 h2;exact⟨p,h1⟩
    ·simp at h
   obtain⟨p,hp⟩:=hlf
   obtain⟨c1,c2⟩:=IZ hp
   refine⟨x,y,by simp[x1],by simp[y1],fun ag h=> ?_,fun ag h=> ?_, ?_⟩
   ·rw[hg] at h;cases h;exact c1
   ·rw[hg] at h;cases h;exact c2
   ·rw[c1,c2];exact h
def PC (P:Program) (D:Nat) (f:TypeId->Option (List LK)):Prop:=∀t l,f t=some l->(∃ag,gX P t=some ag/\(ag=false->l.length=1))/\
 ∀(x y:Value) (r:Bool),Sh P t x->Sh P t y->qp l x.cells.toList y.cells.toList=some r->∀w,(Op.equalIn D t x y).run P w= .ok r w
theorem wR {D:Nat} {f:TypeId->Option (List LK)} (hf:PC P D f) {xs ys:Array Value}:∀{fs:List Field} {off:Nat} {l:List LK} {r:Bool},L4 P f fs off=some l->qp l (xs.toList.drop off) (ys.toList.drop off)=some r->
 ∀w,(Op.eqFields D xs ys fs).run P w= .ok r w
 |[],off,l,r,h,he,w=>by
  simp only[L4,Option.some.injEq] at h
  subst h
  obtain⟨e1,e2⟩:=tB he
  rw[List.eq_nil_of_length_eq_zero e1,List.eq_nil_of_length_eq_zero e2] at he
  simp only[qp,Option.some.injEq] at he
  subst he
  simp[Op.eqFields]
 |fl::fs,off,l,r,h,he,w=>by
  simp only[L4] at h
  split at h
  ·rename_i l1 s q h1 h2 h3
   simp only[Option.ite_none_right_eq_some,Option.some.injEq] at h
   obtain⟨⟨hls,rfl,hnm⟩,rfl⟩:=h
   rw[h2] at h3
   simp only[Option.getD_some] at h3
   obtain⟨r1,r2,g1,g2,rfl⟩:=pN he
   obtain⟨⟨ag,hg,hag⟩,hrun⟩:=hf _ _ h1
   rw[hls] at g1 g2
   obtain⟨x,y,p1,p2,p3,p4,p5⟩:=GI hg h2 hls (fun e=>by rw[<-hls];exact hag e) g1 w
   rw[List.drop_drop,List.drop_drop] at g2
   have ih:=wR hf h3 g2 w
   simp only[Op.eqFields,if_pos hnm,Sem.run_bind,p1,p2,Result.andThen_ok,hrun x y r1 p3 p4 p5]
   cases r1
   ·simp
   ·simpa using ih
  ·simp at h
theorem wS {D:Nat} {f:TypeId->Option (List LK)} (hf:PC P D f) {xs ys:Array Value} {e:TypeId} {s:Nat} {l:List LK} (h1:f e=some l) (h2:kq P e=some s) (hls:l.length=s):∀(n k:Nat) {r:Bool},
 qp (List.replicate n l).flatten (xs.toList.drop (k * s)) (ys.toList.drop (k * s))=some r->∀w,(Op.eqItems D e s xs ys (List.range' k n)).run P w= .ok r w
 |0,k,r,he,w=>by
  simp only[List.replicate_zero,List.flatten_nil] at he
  obtain⟨e1,e2⟩:=tB he
  rw[List.eq_nil_of_length_eq_zero e1,List.eq_nil_of_length_eq_zero e2] at he
  simp only[qp,Option.some.injEq] at he
  subst he
  simp[Op.eqItems]
 |n+1,k,r,he,w=>by
  rw[List.replicate_succ,List.flatten_cons] at he
  obtain⟨r1,r2,g1,g2,rfl⟩:=pN he
  obtain⟨⟨ag,hg,hag⟩,hrun⟩:=hf _ _ h1
  rw[hls] at g1 g2
  obtain⟨x,y,p1,p2,p3,p4,p5⟩:=GI hg h2 hls (fun e=>by rw[<-hls];exact hag e) g1 w
  rw[List.drop_drop,List.drop_drop,<-Nat.succ_mul] at g2
  have ih:=wS hf h1 h2 hls n (k+1) g2 w
  simp only[List.range'_succ,Op.eqItems,Sem.run_bind,p1,p2,Result.andThen_ok,hrun x y r1 p3 p4 p5]
  cases r1
  ·simp
  ·simpa using ih
theorem wT:∀(k d:Nat),PC P (d+k) (zW P k)
 |0,d=>fun t l h=>by simp[zW] at h
 |k+1,d=>fun t l h=>by
  have ih:PC P (d+k) (zW P k):=wT k d
  simp only[zW] at h
  have one:∀{x:Value},gX P t=some false->Sh P t x->x.cells=#[x]:=fun hg hx=>hx false hg
  have scal:∀{x y:Value} {kk:LK} {r:Bool},x.cells=#[x]->y.cells=#[y]->qp [kk] x.cells.toList y.cells.toList=some r->ox kk x y=some r:=by
   intro x y kk r hx hy he
   rw[hx,hy] at he
   simp only[qp] at he
   split at he
   ·rename_i p q h1 h2;simp only[Option.some.injEq] at h2;subst h2;simpa[h1] using he
   ·simp at he
  split at h
  ·rename_i ik hu
   simp only[Option.some.injEq] at h
   subst h
   have hg:gX P t=some false:=by simp[gX,hu]
   refine⟨⟨false,hg,fun _=>rfl⟩,fun x y r hx hy he w=> ?_⟩
   have:=scal (one hg hx) (one hg hy) he
   unfold ox at this
   split at this<;>first|(simp at this;done)|skip
   ·rename_i heq;
    simp only[Option.ite_none_right_eq_some,Option.some.injEq] at this
    obtain⟨rfl,rfl⟩:=this
    exact run_equalIn_int w (d+k) t _ _ _ _ hu
   ·rename_i heq;cases heq
   ·rename_i heq;cases heq
  ·rename_i hu
   simp only[Option.some.injEq] at h
   subst h
   have hg:gX P t=some false:=by simp[gX,hu]
   refine⟨⟨false,hg,fun _=>rfl⟩,fun x y r hx hy he w=> ?_⟩
   have:=scal (one hg hx) (one hg hy) he
   unfold ox at this
   split at this<;>first|(simp at this;done)|skip
   ·rename_i heq;cases heq
   ·simp only[Option.some.injEq] at this
    subst this
    exact run_equalIn_bool w (d+k) t _ _ hu
   ·rename_i heq;cases heq
  ·rename_i hu
   simp only[Option.some.injEq] at h
   subst h
   have hg:gX P t=some false:=by simp[gX,hu]
   refine⟨⟨false,hg,fun _=>rfl⟩,fun x y r hx hy he w=> ?_⟩
   have:=scal (one hg hx) (one hg hy) he
   unfold ox at this
   split at this<;>first|(simp at this;done)|skip
   ·rename_i heq;cases heq
   ·rename_i heq;cases heq
   ·simp only[Option.some.injEq] at this
    subst this
    rw[beq_toListBytes]
    exact run_equalIn_string w (d+k) t _ _ hu
  ·rename_i fs hu
   simp only[Option.ite_none_left_eq_some] at h
   obtain⟨hp,h⟩:=h
   have hg:gX P t=some true:=by simp[gX,hu]
   refine⟨⟨true,hg,fun e=>by cases e⟩,fun x y r hx hy he w=> ?_⟩
   obtain⟨xs,rfl⟩:=hx true hg
   obtain⟨ys,rfl⟩:=hy true hg
   have hfo:P.fieldsOf t=fs:=by simp[Program.fieldsOf,hu]
   rw[show d+(k+1)=(d+k)+1 from rfl,run_equalIn_struct w (d+k) t xs ys (by rw[hfo];exact hu) (by simpa using hp),hfo]
   exact wR ih h (by simpa[Value.cells] using he) w
  ·rename_i n e hu
   split at h
   ·rename_i l1 s h1 h2
    simp only[Option.ite_none_right_eq_some,Option.some.injEq] at h
    obtain⟨hls,rfl⟩:=h
    have hg:gX P t=some true:=by simp[gX,hu]
    refine⟨⟨true,hg,fun e=>by cases e⟩,fun x y r hx hy he w=> ?_⟩
    obtain⟨xs,rfl⟩:=hx true hg
    obtain⟨ys,rfl⟩:=hy true hg
    have hi:∃i,P.info? e=some i/\i.size=s:=by
     unfold kq at h2
     simpa[Option.map_eq_some_iff] using h2
    obtain⟨i,hi,his⟩:=hi
    have hc:P.cellsOf e=s:=by simp[Program.cellsOf,hi,his]
    rw[show d+(k+1)=(d+k)+1 from rfl,run_equalIn_array w (d+k) xs ys hu hi,hc,List.range_eq_range']
    exact wS ih h1 h2 hls n 0 (by simpa[Value.cells] using he) w
   ·simp at h
  ·simp at h
theorem SB:∀{ks:List LK} {as bs:List AV} {vs us:List Value} {r:Bool},cu c as vs->cu c bs us->L0 ks as bs=some r->qp ks vs us=some r
 |[],[],[],vs,us,r,h1,h2,h=>by rw[cu] at h1 h2;subst h1 h2;simpa[L0,qp] using h
 |[],_::_,_,_,_,_,_,_,h=>by simp[L0] at h
 |[],[],_::_,_,_,_,_,_,h=>by simp[L0] at h
 |_::_,[],_,_,_,_,_,_,h=>by simp[L0] at h
 |_::_,_::_,[],_,_,_,_,_,h=>by simp[L0] at h
 |k::ks,a::as,b::bs,vs,us,r,h1,h2,h=>by
  rw[cu] at h1 h2
  obtain⟨v,vs',rfl,v1,v2⟩:=h1
  obtain⟨u,us',rfl,u1,u2⟩:=h2
  simp only[L0] at h
  split at h
  ·rename_i p q e1 e2
   have ih:=SB v2 u2 e2
   have hl:ox k v u=some p:=by
    unfold SH at e1
    split at e1<;>first|(simp at e1;done)|skip
    all_goals (rw[VR] at v1 u1;subst v1 u1;simpa[ox] using e1)
   simp only[qp,hl,ih]
   exact h
  ·simp at h
theorem zi {neg:Bool} {op:BinOp} {t yt:TypeId} {x y:Operand} {x' y':eO} {ks:List LK} {as bs:List AV} {q:Bool} (ho:o.op= .binOp op t x y yt) (hop:op=if neg then .neq else .eql) (ht:zW P 20 t=some ks) (hag:gX P t=some true) (hm:P.eqGuardType P.depth t=false)
 (h:dy w0 c) (hF:FR c fr a.tmps) (h1:cQ x=some x') (h2:cQ y=some y') (ex:ev fr x'= .agg as) (ey:ev fr y'= .agg bs) (hr:L0 ks as bs=some q):eU P o a w0 c id (.sc (.bool (if neg then !q else q))) c.H:=by
 have hx:=gY hF h1
 have hy:=gY hF h2
 rw[ex,VR] at hx
 rw[ey,VR] at hy
 obtain⟨xs,hx,hxs⟩:=hx
 obtain⟨ys,hy,hys⟩:=hy
 subst hop
 have hsh:∀vs,Sh P t (.agg vs):=fun vs ag h=>by rw[hag] at h;cases h;exact⟨_,rfl⟩
 have he:=(wT (P:=P) 20 9980 t ks ht).2 (.agg xs) (.agg ys) q (hsh _) (hsh _) (by simpa[Value.cells] using SB hxs hys hr) c.w
 refine cR h (v:=_) ?_ (by rw[VR])
 unfold execOp
 cases neg
 ·simp only[ho,hx,hy,Sem.run_bind,run_eqGuard_agg c.w _ t x y xs ys hm,Result.andThen_ok,Bool.false_eq_true,if_false,run_eql_struct,he,Sem.run_pure]
 ·simp only[ho,hx,hy,Sem.run_bind,run_eqGuard_agg c.w _ t x y xs ys hm,Result.andThen_ok,if_true,run_neq_struct,he,Sem.run_pure]
end
end Go.cw
end
