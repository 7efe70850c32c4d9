import Derived.Test.YtjopoheligmmoaaGreatDoorM5
section
/- All steps in one theorem. -/
set_option linter.unusedVariables false
namespace Go.cw
open Go.RowKit
section
variable {P:Program} {o:Oper} {a:Act} {w0:World} {c:Cx} {id:Nat} {fr:Fr} {H:Hp} {lop:df} {r:AV} {u:Option (Nat×fH)}
theorem F6 {x:Operand} {x':eO} (ho:o.op= .move x\/o.op= .assign x) (h:dy w0 c) (hF:FR c fr a.tmps) (h1:cQ x=some x'):eU P o a w0 c id (ev fr x') c.H:=by
 refine cR (v:=a.eval x) h ?_ (gY hF h1)
 unfold execOp
 rcases ho with ho|ho<;>simp[ho]
theorem MQ {x:Operand} {x':eO} {i:Nat} {vs:List AV} (ho:o.op= .extract x i) (h:dy w0 c) (hF:FR c fr a.tmps) (h1:cQ x=some x') (ex:ev fr x'= .dI vs) (hi:i<vs.length):eU P o a w0 c id (vs.getD i .any) c.H:=by
 have hx:=gY hF h1
 rw[ex,VR] at hx
 obtain⟨us,hv,hr⟩:=hx
 obtain⟨v,h2,h3⟩:=hr.get i hi
 refine cR (v:=v) h ?_ h3
 have:us[i]?=some v:=by simpa using h2
 unfold execOp
 simp[ho,hv,Instr.extract,this]
theorem MW {f:Fn} {p q:Array Operand} {p' q':List eO} (ho:o.op= .makeFunc f p q) (h:dy w0 c) (hF:FR c fr a.tmps) (h1:nZ p.toList=some p') (h2:nZ q.toList=some q'):eU P o a w0 c id (.fn f (vl fr p') (vl fr q')) c.H:=by
 refine cR (v:= .func f (p.map a.eval) (q.map a.eval)) h ?_ ?_
 ·unfold execOp
  simp[ho,Instr.makeFunc]
 ·rw[VR]
  exact⟨_,_,rfl,by simpa using ju hF h1,by simpa using ju hF h2⟩
theorem MX {t:TypeId} {x:Operand} {x':eO} {d:TypeDesc} (ho:o.op= .makeInterface t x) (ht:P.underlying t=some d) (hd:∀ms,d≠ .interface ms) (h:dy w0 c) (hF:FR c fr a.tmps) (h1:cQ x=some x'):eU P o a w0 c id (.nA t (ev fr x')) c.H:=by
 refine cR (v:= .iface t (a.eval x)) h ?_ (by rw[VR];exact⟨_,rfl,gY hF h1⟩)
 unfold execOp
 simp only[ho,Instr.makeInterface,Sem.run_bind,run_underlying ht,Result.andThen_ok]
 cases d<;>first|exact absurd rfl (hd _)|simp
theorem MR {t:TypeId} {x:Operand} {x':eO} {f:Nat} {fs:Array Field} {fl:Field} {ag:Bool} {k:Nat} {cs:List AV} (ho:o.op= .field t x f) (ht:P.underlying t=some (.struct fs)) (hf:fs[f]?=some fl) (hg:gX P fl.type=some ag) (hk:kq P fl.type=some k) (hk1:ag=false->k=1)
 (h:dy w0 c) (hF:FR c fr a.tmps) (h1:cQ x=some x') (ex:ev fr x'= .agg cs) (hle:fl.offset+k<=cs.length):eU P o a w0 c id (if ag then .agg ((cs.drop fl.offset).take k) else cs.getD fl.offset .any) c.H:=by
 have hx:=gY hF h1
 rw[ex,VR] at hx
 obtain⟨vs,hv,hr⟩:=hx
 obtain⟨v,h2,h3⟩:=BH hg hk hk1 hr fl.offset hle c.w
 refine cR (v:=v) h ?_ h3
 unfold execOp
 simp[ho,hv,Instr.field,run_underlying ht,hf,asAgg,h2]
theorem QK {t e:TypeId} {x i:Operand} {x' i':eO} {n:Nat} {ag:Bool} {k:Nat} {cs:List AV} {kk:IntKind} {j:Int} (ho:o.op= .index t x i) (ht:P.underlying t=some (.array n e)) (hg:gX P e=some ag) (hk:kq P e=some k) (hk1:ag=false->k=1)
 (h:dy w0 c) (hF:FR c fr a.tmps) (h1:cQ x=some x') (h2:cQ i=some i') (ex:ev fr x'= .agg cs) (ei:ev fr i'= .sc (.int kk j)) (h0:0<=j) (hj:j<n) (hn:n * k=cs.length):eU P o a w0 c id (if ag then .agg ((cs.drop (j.toNat * k)).take k) else cs.getD (j.toNat * k) .any) c.H:=by
 have hx:=gY hF h1
 have hi:=gY hF h2
 rw[ex,VR] at hx
 rw[ei,VR] at hi
 obtain⟨vs,hv,hr⟩:=hx
 have hle:j.toNat * k+k<=cs.length:=by rw[<-hn,<-Nat.succ_mul];exact Nat.mul_le_mul_right _ (by omega)
 obtain⟨v,h3,h4⟩:=BH hg hk hk1 hr (j.toNat * k) hle c.w
 refine cR (v:=v) h ?_ h4
 unfold execOp
 simp[ho,hv,hi,Instr.index,run_underlying ht,asIntOf,h0,hj,run_sizeOf hk,h3]
theorem step_eq {op:BinOp} {t yt:TypeId} {x y:Operand} {x' y':eO} (ho:o.op= .binOp op t x y yt) (hl:AO P op t x' y'=some lop) (hs:cM id fr H lop=some (r,u)) (h:dy w0 c) (hF:FR c fr a.tmps) (h1:cQ x=some x') (h2:cQ y=some y'):
 eU P o a w0 c id r c.H/\u=none:=by
 unfold AO at hl
 split at hl
 ·rename_i ks hk
  simp only[Option.ite_none_left_eq_some,not_or,Decidable.not_not] at hl
  obtain⟨⟨hm,hag⟩,hl⟩:=hl
  split at hl
  ·simp only[Option.some.injEq] at hl
   subst hl
   simp only[cM] at hs
   split at hs
   ·rename_i as bs ex ey
    split at hs
    ·rename_i q hq
     simp only[Option.some.injEq,Prod.mk.injEq] at hs
     obtain⟨rfl,rfl⟩:=hs
     exact⟨zi (neg:=false) ho rfl hk hag (by simpa using hm) h hF h1 h2 ex ey hq,rfl⟩
    ·simp at hs
   ·simp at hs
  ·simp only[Option.some.injEq] at hl
   subst hl
   simp only[cM] at hs
   split at hs
   ·rename_i as bs ex ey
    split at hs
    ·rename_i q hq
     simp only[Option.some.injEq,Prod.mk.injEq] at hs
     obtain⟨rfl,rfl⟩:=hs
     exact⟨zi (neg:=true) ho rfl hk hag (by simpa using hm) h hF h1 h2 ex ey hq,rfl⟩
    ·simp at hs
   ·simp at hs
  ·simp at hl
 ·simp at hl
theorem E9 (hl:rb P o=some lop) (hs:cM id fr H lop=some (r,u)) (h:dy w0 c) (hH:c.H=bt H) (hF:FR c fr a.tmps) (hid:¬c.U id):eU P o a w0 c id r (bt (dS H u)):=by
 cases hop:o.op<;>simp only[rb,hop,reduceCtorEq] at hl
 case move x=>
  simp only[Option.map_eq_some_iff] at hl
  obtain⟨x',h1,rfl⟩:=hl
  simp only[cM,Option.some.injEq,Prod.mk.injEq] at hs
  obtain⟨rfl,rfl⟩:=hs
  simpa[dS,<-hH] using F6 (.inl hop) h hF h1
 case assign x=>
  simp only[Option.map_eq_some_iff] at hl
  obtain⟨x',h1,rfl⟩:=hl
  simp only[cM,Option.some.injEq,Prod.mk.injEq] at hs
  obtain⟨rfl,rfl⟩:=hs
  simpa[dS,<-hH] using F6 (.inr hop) h hF h1
 case pick k x y=>
  split at hl
  ·rename_i k' x' y' h1 h2 h3
   simp only[Option.some.injEq] at hl
   subst hl
   simp only[cM] at hs
   split at hs
   ·rename_i t hk
    simp only[Option.some.injEq,Prod.mk.injEq] at hs
    obtain⟨rfl,rfl⟩:=hs
    simpa[dS,<-hH] using II hop h hF h1 h2 h3 hk
   ·simp at hs
  ·simp at hl
 case alloc e=>
  split at hl
  ·rename_i n hp
   simp only[Option.some.injEq] at hl
   subst hl
   simp only[cM,Option.some.injEq,Prod.mk.injEq] at hs
   obtain⟨rfl,rfl⟩:=hs
   rw[du,<-hH]
   exact MJ hop hp h hid
  split at hl
  ·rename_i p hp
   obtain⟨sz,v⟩:=p
   simp only[Option.some.injEq] at hl
   subst hl
   simp only[cM,Option.some.injEq,Prod.mk.injEq] at hs
   obtain⟨rfl,rfl⟩:=hs
   rw[du,<-hH]
   exact IB hop hp h hid _
  ·simp only[Option.map_eq_some_iff] at hl
   obtain⟨⟨sz,ag,z⟩,h1,rfl⟩:=hl
   simp only[cM,Option.ite_none_right_eq_some,Option.some.injEq,Prod.mk.injEq] at hs
   obtain⟨_,rfl,rfl⟩:=hs
   rw[du,<-hH]
   exact DB hop h1 h hid _
 case makeMap t rs=>
  split at hl
  ·rename_i kt et ht
   simp only[Option.ite_none_right_eq_some,Option.some.injEq,Bool.and_eq_true] at hl
   obtain⟨⟨_,hr⟩,rfl⟩:=hl
   simp only[cM,Option.some.injEq,Prod.mk.injEq] at hs
   obtain⟨rfl,rfl⟩:=hs
   rw[du,<-hH]
   exact MY hop ht hr h hid _
  ·simp at hl
 case lookup t x k ok=>
  split at hl
  ·rename_i kt e x' k' ht h1 h2
   split at hl
   ·rename_i str p hk hz
    obtain⟨sz,ag,z⟩:=p
    simp only[Option.some.injEq] at hl
    subst hl
    simp only[cM] at hs
    split at hs
    ·rename_i b et dd es kv hm hkv
     simp only[Option.ite_none_right_eq_some] at hs
     obtain⟨hok,hs⟩:=hs
     split at hs
     ·rename_i i v hf
      simp only[Option.some.injEq,Prod.mk.injEq] at hs
      obtain⟨rfl,rfl⟩:=hs
      simpa[dS,<-hH] using zj hop ht hk hz h hH hF h1 h2 hm hkv hok hf
     ·rename_i hf
      simp only[Option.some.injEq,Prod.mk.injEq] at hs
      obtain⟨rfl,rfl⟩:=hs
      simpa[dS,<-hH] using zj hop ht hk hz h hH hF h1 h2 hm hkv hok hf
     ·simp at hs
    ·simp at hs
   ·simp at hl
  ·simp at hl
 case mapUpdate t x k y=>
  split at hl
  ·rename_i kt e x' k' y' ht h1 h2 h3
   simp only[Option.map_eq_some_iff] at hl
   obtain⟨str,hk,rfl⟩:=hl
   simp only[cM] at hs
   split at hs
   ·rename_i b et dd es kv hm hkv
    simp only[Option.ite_none_right_eq_some] at hs
    obtain⟨hok,hs⟩:=hs
    split at hs
    ·rename_i i v hf
     simp only[Option.some.injEq,Prod.mk.injEq] at hs
     obtain⟨rfl,rfl⟩:=hs
     rw[du,<-hH]
     exact qM (.inl hop) ht hk h hH hF h1 h2 h3 hm hkv hok hf
    ·rename_i hf
     simp only[Option.some.injEq,Prod.mk.injEq] at hs
     obtain⟨rfl,rfl⟩:=hs
     rw[du,<-hH]
     exact qM (.inl hop) ht hk h hH hF h1 h2 h3 hm hkv hok hf
    ·simp at hs
   ·simp at hs
  ·simp at hl
 case insert t x k y=>
  split at hl
  ·rename_i kt e x' k' y' ht h1 h2 h3
   simp only[Option.map_eq_some_iff] at hl
   obtain⟨str,hk,rfl⟩:=hl
   simp only[cM] at hs
   split at hs
   ·rename_i b et dd es kv hm hkv
    simp only[Option.ite_none_right_eq_some] at hs
    obtain⟨hok,hs⟩:=hs
    split at hs
    ·rename_i i v hf
     simp only[Option.some.injEq,Prod.mk.injEq] at hs
     obtain⟨rfl,rfl⟩:=hs
     rw[du,<-hH]
     exact qM (.inr hop) ht hk h hH hF h1 h2 h3 hm hkv hok hf
    ·rename_i hf
     simp only[Option.some.injEq,Prod.mk.injEq] at hs
     obtain⟨rfl,rfl⟩:=hs
     rw[du,<-hH]
     exact qM (.inr hop) ht hk h hH hF h1 h2 h3 hm hkv hok hf
    ·simp at hs
   ·simp at hs
  ·simp at hl
 case typeAssert x xt t ok=>
  split at hl
  ·simp at hl
  ·rename_i d p x' hne h1 h2 h3
   obtain⟨sz,ag,z⟩:=p
   simp only[Option.some.injEq] at hl
   subst hl
   simp only[cM] at hs
   split at hs
   ·rename_i t' v hx
    have hs':(if t'=t then some (if ok then AV.dI [v, .sc (.bool true)] else v) else if ok then some (.dI [gO ag z, .sc (.bool false)]) else none)=some r/\u=none:=by
     split at hs
     ·simp only[Option.some.injEq,Prod.mk.injEq] at hs
      obtain⟨rfl,rfl⟩:=hs
      rename_i e
      exact⟨by rw[if_pos e],rfl⟩
     ·rename_i e
      simp only[Option.ite_none_right_eq_some,Option.some.injEq,Prod.mk.injEq] at hs
      obtain⟨e2,rfl,rfl⟩:=hs
      exact⟨by rw[if_neg e,if_pos e2],rfl⟩
    obtain⟨hs1,rfl⟩:=hs'
    simpa[dS,<-hH] using M3 hop h1 (fun ms e=>by subst e;exact hne _ rfl) h2 h hF h3 hx hs1
   ·simp at hs
  ·simp at hl
 case box e x=>
  split at hl
  ·rename_i p hp
   obtain⟨sz,v⟩:=p
   simp only[Option.map_eq_some_iff] at hl
   obtain⟨x',h2,rfl⟩:=hl
   simp only[cM,Option.ite_none_right_eq_some,Option.some.injEq,Prod.mk.injEq] at hs
   obtain⟨hf,rfl,rfl⟩:=hs
   rw[du,<-hH]
   obtain⟨_,_,_,_,_,_,hpos⟩:=yc hp
   exact ze hop hf hpos h hid rfl (gY hF h2) _
  ·split at hl
   ·rename_i p x' h1 h2
    obtain⟨sz,ag,z⟩:=p
    simp only[Option.some.injEq] at hl
    subst hl
    simp only[cM,Option.ite_none_right_eq_some,Option.some.injEq,Prod.mk.injEq] at hs
    obtain⟨hf,rfl,rfl⟩:=hs
    rw[du,<-hH]
    obtain⟨_,_,_,_,_,_,_,_,_,hpos,_⟩:=jT h1
    exact ze hop hf hpos h hid rfl (gY hF h2) _
   ·simp at hl
 case build t parts=>
  split at hl
  ·rename_i p hp
   obtain⟨sz,v⟩:=p
   simp only[Option.ite_none_right_eq_some,Bool.and_eq_true] at hp
   obtain⟨⟨he,hpl⟩,hp⟩:=hp
   have he:parts=#[]:=by simpa using he
   subst he
   simp only[Option.some.injEq] at hl
   subst hl
   simp only[cM,Option.some.injEq,Prod.mk.injEq] at hs
   obtain⟨rfl,rfl⟩:=hs
   simpa[dS,<-hH] using ID hop hpl hp h
  split at hl
  ·rename_i pl z h1 h2
   simp only[Option.map_eq_some_iff] at hl
   obtain⟨qs,h3,rfl⟩:=hl
   simp only[cM] at hs
   split at hs
   ·rename_i cs hf
    simp only[Option.some.injEq,Prod.mk.injEq] at hs
    obtain⟨rfl,rfl⟩:=hs
    unfold zcs at h2
    cases hi:P.info? t with
    |none=>rw[hi] at h2;simp at h2
    |some it=>
     rw[hi] at h2
     simp only[Option.bind_some,Option.map_eq_some_iff] at h2
     obtain⟨zv,hz,rfl⟩:=h2
     have hp:=uf hF h3
     have:eU P o a w0 c id (.agg cs) c.H:=by
      refine uU (place:=placeOf pl) hop hi hz ?_ h (by simpa using hp) hf
      unfold qb at h1
      split at h1
      ·rename_i n e ht
       simp only[Option.map_eq_some_iff] at h1
       obtain⟨ie,h4,rfl⟩:=h1
       exact .inl ⟨n,e,ie,ht,h4,rfl⟩
      ·rename_i fs ht
       simp only[Option.map_eq_some_iff] at h1
       obtain⟨ps,h4,rfl⟩:=h1
       exact .inr ⟨fs,ps,ht,h4,rfl⟩
      ·simp at h1
     simpa[dS,<-hH] using this
   ·simp at hs
  ·simp at hl
 case buildSlice t n parts=>
  split at hl
  ·rename_i e ht
   split at hl
   ·rename_i p q h1 h2
    obtain⟨sz,ag,z⟩:=p
    simp only[Option.ite_none_right_eq_some,Option.some.injEq] at hl
    obtain⟨hsm,rfl⟩:=hl
    simp only[cM,Option.ite_none_right_eq_some,Option.some.injEq,Prod.mk.injEq] at hs
    obtain⟨⟨_,hall⟩,rfl,rfl⟩:=hs
    rw[du,<-hH]
    obtain⟨g1,g2⟩:=ug hF h2
    exact zf (ky h1).2 hop ht (ky h1).1 hsm h hid (by simpa using g1) (by simpa using g2) hall _
   ·simp at hl
  ·simp at hl
 case load t x=>
  split at hl
  ·rename_i ag k x' h1 h2 h3
   simp only[Option.ite_none_left_eq_some,Option.some.injEq] at hl
   obtain⟨hk1,rfl⟩:=hl
   simp only[cM] at hs
   split at hs
   ·rename_i sz e off hlk
    simp only[Option.map_eq_some_iff,Prod.mk.injEq] at hs
    obtain⟨r',hr,rfl,rfl⟩:=hs
    obtain⟨blk,o',v,hv,hat,hve,hlt⟩:=rX h hH (gY hF h3) hlk
    simpa[dS,<-hH] using IG hop h1 h2 h hv hat hve hlt hr (fun hag=>by
     by_cases hk:k=1
     ·exact hk
     ·exact absurd ⟨hag,hk⟩ hk1)
   ·simp at hs
  ·simp at hl
 case store t x y=>
  split at hl
  ·rename_i ag k x' y' h1 h2 h3 h4
   simp only[Option.ite_none_left_eq_some,Option.some.injEq] at hl
   obtain⟨hk1,rfl⟩:=hl
   simp only[cM] at hs
   split at hs
   ·rename_i b len i off hx
    split at hs
    ·rename_i e sz d es hb
     simp only[Option.ite_none_right_eq_some] at hs
     obtain⟨hlen,hs⟩:=hs
     split at hs
     ·rename_i e' hst
      simp only[Option.some.injEq,Prod.mk.injEq] at hs
      obtain⟨rfl,rfl⟩:=hs
      rw[du,<-hH]
      have hxv:=gY hF h3
      rw[hx,VR] at hxv
      obtain⟨_,hi,ad,hv,hr⟩:=hxv
      rw[<-hH] at hb
      obtain⟨_,hr⟩:=hr _ _ _ _ hb
      obtain⟨hoff,blk,o',z,hρ,rfl⟩:=hr hlen
      exact DC hop h2 (fun hag=>by
       by_cases hk:k=1
       ·exact hk
       ·exact absurd ⟨hag,hk⟩ hk1) h hb hρ hv (by omega) hoff (gY hF h4) hst
     ·simp at hs
    ·simp at hs
   ·simp at hs
  ·simp at hl
 case nilCheck x=>
  simp only[Option.map_eq_some_iff] at hl
  obtain⟨x',h1,rfl⟩:=hl
  simp only[cM] at hs
  split at hs<;>simp only[Option.some.injEq,Prod.mk.injEq,reduceCtorEq] at hs
  ·rename_i b len i off hx
   obtain⟨rfl,rfl⟩:=hs
   simpa[dS,<-hH] using qN hop h hF h1 hx (.inl ⟨_,_,_,_,rfl⟩)
  ·rename_i sz d es i off hx
   obtain⟨rfl,rfl⟩:=hs
   simpa[dS,<-hH] using qN hop h hF h1 hx (.inr (.inl ⟨_,_,_,_,_,rfl⟩))
  ·rename_i f p q hx
   obtain⟨rfl,rfl⟩:=hs
   simpa[dS,<-hH] using qN hop h hF h1 hx (.inr (.inr (.inl ⟨_,_,_,rfl⟩)))
  ·rename_i t v hx
   obtain⟨rfl,rfl⟩:=hs
   simpa[dS,<-hH] using qN hop h hF h1 hx (.inr (.inr (.inr ⟨_,_,rfl⟩)))
 case binOp op t x y yt=>
  split at hl
  ·rename_i k x' y' h1 h2 h3
   simp only[Option.some.injEq] at hl
   subst hl
   simp only[cM,Option.map_eq_some_iff,Prod.mk.injEq] at hs
   obtain⟨r',hr,rfl,rfl⟩:=hs
   simpa[dS,<-hH] using MM hop h hF h2 h3 hr
  ·rename_i x' y' h1 h2 h3
   split at hl
   ·simp only[Option.some.injEq] at hl
    subst hl
    simp only[cM] at hs
    split at hs
    ·rename_i p q ex ey
     simp only[Option.some.injEq,Prod.mk.injEq] at hs
     obtain⟨rfl,rfl⟩:=hs
     simpa[dS,<-hH] using zh (neg:=false) hop h1 rfl h hF h2 h3 ex ey
    ·simp at hs
   ·simp only[Option.some.injEq] at hl
    subst hl
    simp only[cM] at hs
    split at hs
    ·rename_i p q ex ey
     simp only[Option.some.injEq,Prod.mk.injEq] at hs
     obtain⟨rfl,rfl⟩:=hs
     simpa[dS,<-hH] using zh (neg:=true) hop h1 rfl h hF h2 h3 ex ey
    ·simp at hs
   ·simp at hl
  ·rename_i x' y' h1 h2 h3
   split at hl
   ·simp only[Option.some.injEq] at hl
    subst hl
    simp only[cM] at hs
    split at hs
    ·rename_i p q ex ey
     simp only[Option.some.injEq,Prod.mk.injEq] at hs
     obtain⟨rfl,rfl⟩:=hs
     simpa[dS,<-hH] using uV (neg:=false) hop rfl h hF h2 h3 ex ey
    ·simp at hs
   ·simp only[Option.some.injEq] at hl
    subst hl
    simp only[cM] at hs
    split at hs
    ·rename_i p q ex ey
     simp only[Option.some.injEq,Prod.mk.injEq] at hs
     obtain⟨rfl,rfl⟩:=hs
     simpa[dS,<-hH] using uV (neg:=true) hop rfl h hF h2 h3 ex ey
    ·simp at hs
   ·simp only[Option.some.injEq] at hl
    subst hl
    simp only[cM,Option.map_eq_some_iff,Prod.mk.injEq] at hs
    obtain⟨r',hr,rfl,rfl⟩:=hs
    simpa[dS,<-hH] using we hop (.inl rfl) h hF h2 h3 hr
   ·simp only[Option.some.injEq] at hl
    subst hl
    simp only[cM,Option.map_eq_some_iff,Prod.mk.injEq] at hs
    obtain⟨r',hr,rfl,rfl⟩:=hs
    simpa[dS,<-hH] using we hop (.inr rfl) h hF h2 h3 hr
   ·simp at hl
  ·rename_i e x' h1 h2 h3
   split at hl
   ·simp only[Option.some.injEq] at hl
    subst hl
    simp only[cM] at hs
    obtain⟨g1,g2⟩:=wg (P:=P) (id:=id) (neg:=false) hop h1 rfl h hF h2 (qU h3) hs
    subst g2
    simpa[dS,<-hH] using g1
   ·simp only[Option.some.injEq] at hl
    subst hl
    simp only[cM] at hs
    obtain⟨g1,g2⟩:=wg (P:=P) (id:=id) (neg:=true) hop h1 rfl h hF h2 (qU h3) hs
    subst g2
    simpa[dS,<-hH] using g1
   ·simp at hl
  ·rename_i e x' h1 h2 h3
   split at hl
   ·simp only[Option.some.injEq] at hl
    subst hl
    simp only[cM] at hs
    split at hs
    ·rename_i q hq
     simp only[Option.some.injEq,Prod.mk.injEq] at hs
     obtain⟨rfl,rfl⟩:=hs
     simpa[dS,<-hH] using wh (P:=P) (id:=id) (neg:=false) hop h1 rfl h hH hF h2 (qU h3) hq
    ·simp at hs
   ·simp only[Option.some.injEq] at hl
    subst hl
    simp only[cM] at hs
    split at hs
    ·rename_i q hq
     simp only[Option.some.injEq,Prod.mk.injEq] at hs
     obtain⟨rfl,rfl⟩:=hs
     simpa[dS,<-hH] using wh (P:=P) (id:=id) (neg:=true) hop h1 rfl h hH hF h2 (qU h3) hq
    ·simp at hs
   ·simp at hl
  ·rename_i fs x' y' h1 h2 h3
   obtain⟨g1,g2⟩:=step_eq (P:=P) (id:=id) hop hl hs h hF h2 h3
   subst g2
   simpa[dS,<-hH] using g1
  ·rename_i n e x' y' h1 h2 h3
   obtain⟨g1,g2⟩:=step_eq (P:=P) (id:=id) hop hl hs h hF h2 h3
   subst g2
   simpa[dS,<-hH] using g1
  ·simp at hl
 case slice t x lo hi mx=>
  cases mx with
  |some m=>
   cases lo with
   |some l=>simp at hl
   |none=>
    cases hi with
    |none=>simp at hl
    |some y=>
     simp only at hl
     split at hl
     ·rename_i e x' y' z' h1 h2 h3 h4
      simp only[Option.map_eq_some_iff] at hl
      obtain⟨k,hk,rfl⟩:=hl
      simp only[cM,Option.map_eq_some_iff,Prod.mk.injEq] at hs
      obtain⟨r',hr,rfl,rfl⟩:=hs
      simpa[dS,<-hH] using M1 hop h1 hk h hH hF h2 h3 h4 hr
     ·simp at hl
  |none=>
   have gen:(match P.underlying t,cQ x,vq lo,vq hi with
    |some (.slice e),some x,some lo,some hi=>(kq P e).map fun k=>df.RI k x lo hi
    |_,_,_,_=>none)=some lop->eU P o a w0 c id r (bt (dS H u)):=by
    intro hl
    split at hl
    ·rename_i e x' lo' hi' h1 h2 h3 h4
     simp only[Option.map_eq_some_iff] at hl
     obtain⟨k,hk,rfl⟩:=hl
     simp only[cM,Option.map_eq_some_iff,Prod.mk.injEq] at hs
     obtain⟨r',hr,rfl,rfl⟩:=hs
     simpa[dS,<-hH] using zk hop h1 hk h hH hF h2 h3 h4 hr
    ·simp at hl
   cases lo with
   |none=>
    simp only at hl
    exact gen hl
   |some y=>
    cases hi with
    |some z=>
     simp only at hl
     exact gen hl
    |none=>
     simp only at hl
     split at hl
     ·rename_i e x' y' h1 h2 h3
      simp only[Option.map_eq_some_iff] at hl
      obtain⟨k,hk,rfl⟩:=hl
      simp only[cM,Option.map_eq_some_iff,Prod.mk.injEq] at hs
      obtain⟨r',hr,rfl,rfl⟩:=hs
      simpa[dS,<-hH] using zk hop h1 hk h hH hF h2 (lo':=some y') (hi':=none) (by simp[vq,h3]) rfl hr
     ·rename_i x' y' h1 h2 h3
      simp only[Option.map_eq_some_iff] at hl
      obtain⟨m,hm,rfl⟩:=hl
      simp only[cM,Option.map_eq_some_iff,Prod.mk.injEq] at hs
      obtain⟨r',hr,rfl,rfl⟩:=hs
      simpa[dS,<-hH] using MZ hop hm h hH hF h2 h3 hr
     ·simp at hl
 case unOp op t x=>
  simp only[Option.map_eq_some_iff] at hl
  obtain⟨x',h1,rfl⟩:=hl
  simp only[cM,Option.map_eq_some_iff,Prod.mk.injEq] at hs
  obtain⟨r',hr,rfl,rfl⟩:=hs
  simpa[dS,<-hH] using QL hop h hF h1 hr
 case convert s t x=>
  split at hl
  ·rename_i j k x' h1 h2 h3
   simp only[Option.some.injEq] at hl
   subst hl
   simp only[cM] at hs
   split at hs
   ·rename_i k0 n ex
    simp only[Option.some.injEq,Prod.mk.injEq] at hs
    obtain⟨rfl,rfl⟩:=hs
    simpa[dS,<-hH] using MP hop h1 h2 h hF h3 ex
   ·simp at hs
  ·rename_i e x' h1 h2 h3
   split at hl
   ·rename_i he
    simp only[Option.some.injEq] at hl
    subst hl
    simp only[cM] at hs
    split at hs
    ·rename_i xs hx
     simp only[Option.ite_none_right_eq_some,Option.map_eq_some_iff,Prod.mk.injEq] at hs
     obtain⟨hz,ns,hb,rfl,rfl⟩:=hs
     simpa[dS,<-hH] using MK hop h1 he h2 h hH hF h3 hx hz hb
    ·simp at hs
   ·simp at hl
  ·simp at hl
 case fieldAddr s x f=>
  split at hl
  ·rename_i fs x' h1 h2
   split at hl
   ·rename_i fl h3
    split at hl
    ·rename_i k h4
     simp only[Option.some.injEq] at hl
     subst hl
     simp only[cM] at hs
     obtain⟨g1,g2⟩:=QJ (P:=P) (id:=id) hop h1 h3 h4 h hH hF h2 hs
     subst g2
     simpa[dS,<-hH] using g1
    ·simp at hl
   ·simp at hl
  ·simp at hl
 case indexAddr t x i=>
  split at hl
  ·rename_i x' i' h1 h2
   split at hl
   ·rename_i e ht
    simp only[Option.map_eq_some_iff] at hl
    obtain⟨k,hk,rfl⟩:=hl
    simp only[cM,Option.map_eq_some_iff,Prod.mk.injEq] at hs
    obtain⟨r',hr,rfl,rfl⟩:=hs
    simpa[dS,<-hH] using F5 hop (.inl ⟨rfl,e,ht,hk⟩) h hH hF h1 h2 hr
   ·rename_i n e ht
    split at hl
    ·rename_i m hm
     simp only[Option.some.injEq] at hl
     subst hl
     simp only[cM,Option.map_eq_some_iff,Prod.mk.injEq] at hs
     obtain⟨r',hr,rfl,rfl⟩:=hs
     simpa[dS,<-hH] using MT hop hm h hH hF h1 h2 hr
    simp only[Option.map_eq_some_iff] at hl
    obtain⟨k,hk,rfl⟩:=hl
    simp only[cM,Option.map_eq_some_iff,Prod.mk.injEq] at hs
    obtain⟨r',hr,rfl,rfl⟩:=hs
    simpa[dS,<-hH] using F5 hop (.inr ⟨n,e,rfl,ht,hk⟩) h hH hF h1 h2 hr
   ·simp at hl
  ·simp at hl
 case field t x f=>
  split at hl
  ·rename_i fs x' h1 h2
   split at hl
   ·rename_i fl h3
    split at hl
    ·rename_i ag k h4 h5
     simp only[Option.ite_none_left_eq_some,Option.some.injEq] at hl
     obtain⟨hk1,rfl⟩:=hl
     have hk1':ag=false->k=1:=fun hag=>by
      by_cases hk:k=1
      ·exact hk
      ·exact absurd ⟨hag,hk⟩ hk1
     simp only[cM] at hs
     split at hs
     ·rename_i cs ex
      simp only[Option.ite_none_right_eq_some] at hs
      obtain⟨hle,hs⟩:=hs
      have g:=MR (P:=P) (id:=id) hop h1 h3 h4 h5 hk1' h hF h2 ex hle
      cases ag with
      |true=>
       simp only[if_true,Option.some.injEq,Prod.mk.injEq] at hs
       obtain⟨rfl,rfl⟩:=hs
       simpa[dS,<-hH] using g
      |false=>
       simp only[Bool.false_eq_true,if_false,Option.ite_none_right_eq_some,Option.some.injEq,Prod.mk.injEq] at hs
       obtain⟨_,rfl,rfl⟩:=hs
       simpa[dS,<-hH] using g
     ·simp at hs
    ·simp at hl
   ·simp at hl
  ·simp at hl
 case index t x i=>
  split at hl
  ·rename_i n e x' i' h1 h2 h3
   split at hl
   ·rename_i ag k h4 h5
    simp only[Option.ite_none_left_eq_some,Option.some.injEq] at hl
    obtain⟨hk1,rfl⟩:=hl
    have hk1':ag=false->k=1:=fun hag=>by
     by_cases hk:k=1
     ·exact hk
     ·exact absurd ⟨hag,hk⟩ hk1
    have hxv:=gY hF h2
    simp only[cM] at hs
    split at hs
    ·rename_i cs kk j ex ei
     simp only[Option.ite_none_right_eq_some] at hs
     obtain⟨⟨h0,hj,hn⟩,hs⟩:=hs
     have g:=QK (P:=P) (id:=id) hop h1 h4 h5 hk1' h hF h2 h3 ex ei h0 hj hn
     cases ag with
     |true=>
      simp only[if_true,Option.some.injEq,Prod.mk.injEq] at hs
      obtain⟨rfl,rfl⟩:=hs
      simpa[dS,<-hH] using g
     |false=>
      simp only[Bool.false_eq_true,if_false,Option.ite_none_right_eq_some,Option.some.injEq,Prod.mk.injEq] at hs
      obtain⟨_,rfl,rfl⟩:=hs
      simpa[dS,<-hH] using g
    ·simp at hs
   ·simp at hl
  ·rename_i x' i' h1 h2 h3
   simp only[Option.some.injEq] at hl
   subst hl
   simp only[cM] at hs
   split at hs
   ·rename_i s kk j ex ei
    simp only[Option.ite_none_right_eq_some,Option.some.injEq,Prod.mk.injEq] at hs
    obtain⟨⟨h0,hj⟩,rfl,rfl⟩:=hs
    simpa[dS,<-hH] using MU hop h1 h hF h2 h3 ex ei h0 hj
   ·simp at hs
  ·simp at hl
 case makeSlice t l k=>
  split at hl
  ·rename_i e l' k' h1 h2 h3
   split at hl
   ·rename_i p i h4 h5
    obtain⟨sz,ag,z⟩:=p
    simp only[Option.some.injEq] at hl
    subst hl
    simp only[cM] at hs
    split at hs
    ·rename_i kl n kc m el ek
     simp only[Option.ite_none_right_eq_some,Option.some.injEq,Prod.mk.injEq] at hs
     obtain⟨⟨_,h0,rfl,hb,h63⟩,rfl,rfl⟩:=hs
     rw[du,<-hH]
     have hlv:=gY hF h2
     have hkv:=gY hF h3
     rw[el,VR] at hlv
     rw[ek,VR] at hkv
     exact IH (ky h4).2 hop h1 h5 (ky h4).1 h hid hlv hkv h0 hb h63 _
    ·simp at hs
   ·simp at hl
  ·simp at hl
 case extract x i=>
  simp only[Option.map_eq_some_iff] at hl
  obtain⟨x',h1,rfl⟩:=hl
  simp only[cM] at hs
  split at hs
  ·rename_i vs ex
   simp only[Option.ite_none_right_eq_some,Option.some.injEq,Prod.mk.injEq] at hs
   obtain⟨hi,rfl,rfl⟩:=hs
   simpa[dS,<-hH] using MQ hop h hF h1 ex hi
  ·simp at hs
 case makeFunc f p q=>
  split at hl
  ·rename_i p' q' h1 h2
   simp only[Option.some.injEq] at hl
   subst hl
   simp only[cM,Option.some.injEq,Prod.mk.injEq] at hs
   obtain⟨rfl,rfl⟩:=hs
   simpa[dS,<-hH] using MW hop h hF h1 h2
  ·simp at hl
 case makeInterface t x=>
  split at hl
  ·simp at hl
  ·rename_i d x' hne h1 h2
   simp only[Option.some.injEq] at hl
   subst hl
   simp only[cM,Option.some.injEq,Prod.mk.injEq] at hs
   obtain⟨rfl,rfl⟩:=hs
   simpa[dS,<-hH] using MX hop h1 (fun ms e=>by subst e;exact hne _ rfl) h hF h2
  ·simp at hl
 case call cl=>
  obtain⟨callee,args,argTypes⟩:=cl
  cases callee with
  |invoke recv m=>
   simp only at hl
   split at hl
   ·simp only[Option.some.injEq] at hl
    subst hl
    simp[cM] at hs
   ·simp at hl
  |value f=>
   simp only at hl
   split at hl
   ·simp only[Option.some.injEq] at hl
    subst hl
    simp[cM] at hs
   ·simp at hl
  |builtin b=>
   cases b<;>simp only[reduceCtorEq] at hl
   case len=>
    split at hl
    ·rename_i x t hx ht'
     have hargs:args=#[x]:=by rw[<-Array.toArray_toList (xs:=args),hx]
     have htys:argTypes=#[t]:=by rw[<-Array.toArray_toList (xs:=argTypes),ht']
     subst hargs htys
     split at hl
     ·rename_i e x' ht h1
      simp only[Option.some.injEq] at hl
      subst hl
      simp only[cM] at hs
      split at hs
      ·rename_i n hr
       simp only[Option.some.injEq,Prod.mk.injEq] at hs
       obtain⟨rfl,rfl⟩:=hs
       simpa[dS,<-hH] using MV hop ht h hF h1 hr
      ·simp at hs
     ·rename_i x' ht h1
      simp only[Option.some.injEq] at hl
      subst hl
      simp only[cM] at hs
      split at hs
      ·rename_i s ex
       simp only[Option.some.injEq,Prod.mk.injEq] at hs
       obtain⟨rfl,rfl⟩:=hs
       simpa[dS,<-hH] using IF hop ht h hF h1 ex
      ·simp at hs
     ·rename_i kt e x' ht h1
      simp only[Option.some.injEq] at hl
      subst hl
      simp only[cM] at hs
      split at hs
      ·rename_i b et dd es hm
       simp only[Option.some.injEq,Prod.mk.injEq] at hs
       obtain⟨rfl,rfl⟩:=hs
       simpa[dS,<-hH] using IE hop ht h hH hF h1 hm
      ·simp at hs
     ·simp at hl
    ·simp at hl
   case clear=>
    split at hl
    ·rename_i x t hx ht'
     have hargs:args=#[x]:=by rw[<-Array.toArray_toList (xs:=args),hx]
     have htys:argTypes=#[t]:=by rw[<-Array.toArray_toList (xs:=argTypes),ht']
     subst hargs htys
     split at hl
     ·rename_i e x' h1 h2
      simp only[Option.map_eq_some_iff] at hl
      obtain⟨⟨sz,ag,z⟩,hz,rfl⟩:=hl
      simp only[cM] at hs
      split at hs
      ·rename_i b len lo n ex
       split at hs
       ·rename_i e' s d es hb
        simp only[Option.ite_none_right_eq_some,Option.some.injEq,Prod.mk.injEq] at hs
        obtain⟨⟨hlen,rfl,hln⟩,rfl,rfl⟩:=hs
        rw[du,<-hH]
        exact MN hop h1 hz h hH hF h2 ex hb hlen hln
       ·simp at hs
      ·simp at hs
     ·simp at hl
    ·simp at hl
   case delete=>
    split at hl
    ·rename_i x k t t2 hx ht'
     have hargs:args=#[x,k]:=by rw[<-Array.toArray_toList (xs:=args),hx]
     have htys:argTypes=#[t,t2]:=by rw[<-Array.toArray_toList (xs:=argTypes),ht']
     subst hargs htys
     split at hl
     ·rename_i kt e x' k' ht h1 h2
      simp only[Option.map_eq_some_iff] at hl
      obtain⟨str,hk,rfl⟩:=hl
      simp only[cM] at hs
      split at hs
      ·rename_i b et dd es kv hm hkv
       simp only[Option.ite_none_right_eq_some] at hs
       obtain⟨hok,hs⟩:=hs
       split at hs
       ·rename_i i v hf
        simp only[Option.some.injEq,Prod.mk.injEq] at hs
        obtain⟨rfl,rfl⟩:=hs
        rw[du,<-hH]
        exact zg hop ht hk h hH hF h1 h2 hm hkv hok hf
       ·rename_i hf
        simp only[Option.some.injEq,Prod.mk.injEq] at hs
        obtain⟨rfl,rfl⟩:=hs
        rw[du,<-hH]
        exact zg hop ht hk h hH hF h1 h2 hm hkv hok hf
       ·simp at hs
      ·simp at hs
     ·simp at hl
    ·simp at hl
   case copy=>
    split at hl
    ·rename_i x y t t2 hx ht'
     have hargs:args=#[x,y]:=by rw[<-Array.toArray_toList (xs:=args),hx]
     have htys:argTypes=#[t,t2]:=by rw[<-Array.toArray_toList (xs:=argTypes),ht']
     subst hargs htys
     split at hl
     ·rename_i e x' y' h1 h2 h3
      simp only[Option.map_eq_some_iff] at hl
      obtain⟨k,hk,rfl⟩:=hl
      simp only[cM] at hs
      split at hs
      ·rename_i b len xs ex he
       split at hs
       ·rename_i e' s d es hb
        simp only[Option.ite_none_right_eq_some,Option.some.injEq,Prod.mk.injEq] at hs
        obtain⟨⟨hlen,rfl,hsz⟩,rfl,rfl⟩:=hs
        rw[du,<-hH]
        exact MO hop h1 hk h hH hF h2 h3 ex he hsz hb hlen
       ·simp at hs
      ·simp at hs
     ·simp at hl
    ·simp at hl
   case append=>
    split at hl
    ·rename_i s x t t2 hx ht'
     have hargs:args=#[s,x]:=by rw[<-Array.toArray_toList (xs:=args),hx]
     have htys:argTypes=#[t,t2]:=by rw[<-Array.toArray_toList (xs:=argTypes),ht']
     subst hargs htys
     split at hl
     ·rename_i e e2 s' x' h1 h2 h3 h4
      split at hl
      ·rename_i p i h5 h6
       obtain⟨sz,ag,z⟩:=p
       simp only[Option.ite_none_right_eq_some,Option.some.injEq] at hl
       obtain⟨⟨hby,hbl⟩,rfl⟩:=hl
       simp only[cM] at hs
       split at hs
       ·rename_i xs he
        simp only[Option.ite_none_right_eq_some] at hs
        obtain⟨⟨hsz,_⟩,hs⟩:=hs
        have hxv:=gY hF h4
        have hsv:=gY hF h3
        have g:=zd (P:=P) (id:=id) (s:=s) (ky h5).2 hop h1 h2 h6 (ky h5).1 hby hbl h hH hxv he hsz
        split at hs
        ·rename_i hsn
         simp only[Option.ite_none_right_eq_some,Option.some.injEq,Prod.mk.injEq] at hs
         obtain⟨hb,rfl,rfl⟩:=hs
         rw[du,<-hH]
         rw[hsn,VR] at hsv
         exact g.1 hid _ hsv hb
        ·rename_i b len hsb
         split at hs
         ·rename_i e' sz' d es hrow
          simp only[Option.ite_none_right_eq_some,Option.some.injEq,Prod.mk.injEq] at hs
          obtain⟨⟨hlen,rfl,rfl,hb⟩,rfl,rfl⟩:=hs
          rw[du,<-hH]
          rw[hsb] at hsv
          exact g.2 b len d es hsv hrow hlen hb
         ·simp at hs
        ·simp at hs
       ·simp at hs
      ·simp at hl
     ·rename_i e s' x' h1 h2 h3 h4
      split at hl
      ·rename_i ag z i h5 h6
       simp only[Option.ite_none_right_eq_some,Option.some.injEq] at hl
       obtain⟨⟨hby,hbl⟩,rfl⟩:=hl
       simp only[cM] at hs
       split at hs
       ·rename_i q he
        have hxv:=gY hF h4
        rw[he,VR] at hxv
        have hsv:=gY hF h3
        have g:=IC (P:=P) (id:=id) (s:=s) (ky h5).2 hop h1 h2 h6 (ky h5).1 hby hbl rfl h hH hxv
        split at hs
        ·rename_i hsn
         simp only[Option.ite_none_right_eq_some,Option.some.injEq,Prod.mk.injEq] at hs
         obtain⟨hb,rfl,rfl⟩:=hs
         rw[du,<-hH]
         rw[hsn,VR] at hsv
         exact g.1 hid _ hsv hb
        ·rename_i b len hsb
         split at hs
         ·rename_i e' sz' d es hrow
          simp only[Option.ite_none_right_eq_some,Option.some.injEq,Prod.mk.injEq] at hs
          obtain⟨⟨hlen,rfl,rfl,hb⟩,rfl,rfl⟩:=hs
          rw[du,<-hH]
          rw[hsb] at hsv
          exact g.2 b len d es hsv hrow hlen hb
         ·simp at hs
        ·simp at hs
       ·simp at hs
      ·simp at hl
     ·simp at hl
    ·simp at hl
theorem xL (hl:mq P o=some lop) (hs:cM id fr H lop=some (r,u)) (h:dy w0 c) (hH:c.H=bt H) (hF:FR c fr a.tmps) (hid:¬c.U id):eU P o a w0 c id r (bt (dS H u)):=by
 rcases sU hl with hl|rfl
 ·exact E9 hl hs h hH hF hid
 ·cases hs
end
end Go.cw
/- What is forgotten at a loop's head and at a function's end. -/
namespace Go.cw
open Go.RowKit
mutual
/-- Every name of own memory in it is below n. -/
def cH (n:Nat):AV->Prop
 | .sc _=>True
 | .any=>True
 | .im _ _ es=>c8 n es
 | .ip _ _ es _ _=>c8 n es
 | .sl b _=>b<n
 | .pt b _ _ _=>b<n
 | .zc=>True
 | .agg cs=>c8 n cs
 | .dI cs=>c8 n cs
 | .fn _ p q=>c8 n p/\c8 n q
 | .nA _ x=>cH n x
 | .mp b=>b<n
 | .ab=>True
 | .sv b _ _ _=>b<n
def c8 (n:Nat):List AV->Prop
 |[]=>True
 |a::as=>cH n a/\c8 n as
end
theorem zY {n:Nat} {as:List AV}:c8 n as↔∀a∈as,cH n a:=by
 induction as with
 |nil=>simp[c8]
 |cons a as ih=>simp[c8,ih]
theorem cD {α:Type} {n:Nat} (f:α->AV) (l:List α):c8 n (l.map f)↔∀x∈l,cH n (f x):=by
 rw[zY];simp
structure Cx.WJ (n:Nat) (c c':Cx):Prop where
 U:∀b,b<n->c.U b->c'.U b
 blk:∀b,¬c.M b->b<c.w.heap.size->c'.w.heap[b]?=c.w.heap[b]?/\¬c'.M b
 row:∀b,b<n->c.U b->∀e sz d es,c'.H b=some (.row e sz d es)->∃e0 d0 es0,c.H b=some (.row e0 sz d0 es0)/\((es0.length=es.length/\c'.ρ b=c.ρ b)\/es0.length<es.length)
mutual
theorem VR.gz {n:Nat} {c c':Cx} (h:c.WJ n c'):∀{a:AV} {v:Value},cH n a->VR c a v->VR c' a v
 | .sc u,v,_,hv=>by rw[VR] at hv ⊢;exact hv
 | .any,_,_,_=>by rw[VR];trivial
 | .im sz d es,v,hf,hv=>by
  rw[VR] at hv ⊢
  rw[cH] at hf
  obtain⟨a,cap,rfl,hc,hr⟩:=hv
  refine⟨a,cap,rfl,hc, ?_⟩
  rcases hr with h0|⟨blk,o,rfl,hz,hm,hr⟩
  ·exact .inl h0
  ·by_cases h0:es=[]
   ·exact .inl h0
   ·obtain⟨h1,h2⟩:=h.blk blk hm (sr hz h0 hr)
    exact .inr ⟨blk,o,rfl,hz,h2,eA.gz h h1 hf hr⟩
 | .ip sz d es i off,v,hf,hv=>by
  rw[VR] at hv ⊢
  rw[cH] at hf
  obtain⟨hi,ho,blk,o,rfl,hm,hr⟩:=hv
  obtain⟨h1,h2⟩:=h.blk blk hm (sr (by omega) (by intro e;rw[e] at hi;simp at hi) hr)
  exact⟨hi,ho,blk,o,rfl,h2,eA.gz h h1 hf hr⟩
 | .sl b len,v,hf,hv=>by
  rw[VR] at hv ⊢
  rw[cH] at hf
  obtain⟨hb,a,cap,rfl,hr⟩:=hv
  refine⟨h.U _ hf hb,a,cap,rfl,fun e sz d es he=> ?_⟩
  obtain⟨e0,d0,es0,h0,hor⟩:=h.row b hf hb e sz d es he
  obtain⟨h1,h2⟩:=hr _ _ _ _ h0
  rcases hor with⟨hl,hρ⟩|hl
  ·rw[hl] at h1 h2
   rw[hρ]
   exact⟨h1,h2⟩
  ·exact⟨by omega,fun he=>by omega⟩
 | .pt b len i off,v,hf,hv=>by
  rw[VR] at hv ⊢
  rw[cH] at hf
  obtain⟨hb,hi,a,rfl,hr⟩:=hv
  refine⟨h.U _ hf hb,hi,a,rfl,fun e sz d es he=> ?_⟩
  obtain⟨e0,d0,es0,h0,hor⟩:=h.row b hf hb e sz d es he
  obtain⟨h1,h2⟩:=hr _ _ _ _ h0
  rcases hor with⟨hl,hρ⟩|hl
  ·rw[hl] at h1 h2
   rw[hρ]
   exact⟨h1,h2⟩
  ·exact⟨by omega,fun he=>by omega⟩
 | .zc,v,_,hv=>by rw[VR] at hv ⊢;exact hv
 | .agg cs,v,hf,hv=>by
  rw[VR] at hv ⊢
  rw[cH] at hf
  obtain⟨vs,rfl,hr⟩:=hv
  exact⟨vs,rfl,cu.gz h hf hr⟩
 | .dI cs,v,hf,hv=>by
  rw[VR] at hv ⊢
  rw[cH] at hf
  obtain⟨vs,rfl,hr⟩:=hv
  exact⟨vs,rfl,cu.gz h hf hr⟩
 | .fn f p q,v,hf,hv=>by
  rw[VR] at hv ⊢
  rw[cH] at hf
  obtain⟨ps,qs,rfl,h1,h2⟩:=hv
  exact⟨ps,qs,rfl,cu.gz h hf.1 h1,cu.gz h hf.2 h2⟩
 | .nA t x,v,hf,hv=>by
  rw[VR] at hv ⊢
  rw[cH] at hf
  obtain⟨u,rfl,h1⟩:=hv
  exact⟨u,rfl,VR.gz h hf h1⟩
 | .mp b,v,hf,hv=>by
  rw[VR] at hv ⊢
  rw[cH] at hf
  obtain⟨hb,r,rfl,hr⟩:=hv
  refine⟨h.U _ hf hb,r,rfl,fun e sz d es he=> ?_⟩
  obtain⟨e0,d0,es0,h0,hor⟩:=h.row b hf hb e sz d es he
  obtain⟨h1,h2⟩:=hr _ _ _ _ h0
  rcases hor with⟨hl,hρ⟩|hl
  ·rw[hl] at h1 h2
   rw[hρ]
   exact⟨h1,h2⟩
  ·exact⟨by omega,fun he=>by omega⟩
 | .ab,v,_,hv=>by rw[VR] at hv ⊢;exact hv
 | .sv b len lo m,v,hf,hv=>by
  rw[VR] at hv ⊢
  rw[cH] at hf
  obtain⟨hb,hi,a,cap,rfl,hc,hr⟩:=hv
  refine⟨h.U _ hf hb,hi,a,cap,rfl,hc,fun e sz d es he=> ?_⟩
  obtain⟨e0,d0,es0,h0,hor⟩:=h.row b hf hb e sz d es he
  obtain⟨h1,h2⟩:=hr _ _ _ _ h0
  rcases hor with⟨hl,hρ⟩|hl
  ·rw[hl] at h1 h2
   rw[hρ]
   exact⟨h1,h2⟩
  ·exact⟨by omega,fun he=>by omega⟩
theorem eA.gz {n:Nat} {c c':Cx} (h:c.WJ n c') {sz:Nat} {blk:Nat} (hb:c'.w.heap[blk]?=c.w.heap[blk]?):∀{es:List AV} {o:Nat},c8 n es->eA c sz es blk o->eA c' sz es blk o
 |[],_,_,_=>by rw[eA];trivial
 |e::es,o,hf,hr=>by
  rw[eA] at hr ⊢
  rw[c8] at hf
  obtain⟨⟨v,h1,h2⟩,h3⟩:=hr
  exact⟨⟨v,h1.cc hb,VR.gz h hf.1 h2⟩,eA.gz h hb hf.2 h3⟩
theorem cu.gz {n:Nat} {c c':Cx} (h:c.WJ n c'):∀{as:List AV} {vs:List Value},c8 n as->cu c as vs->cu c' as vs
 |[],vs,_,hv=>by rw[cu] at hv ⊢;exact hv
 |a::as,vs,hf,hv=>by
  rw[cu] at hv ⊢
  rw[c8] at hf
  obtain⟨v,vs',rfl,h1,h2⟩:=hv
  exact⟨v,vs',rfl,VR.gz h hf.1 h1,cu.gz h hf.2 h2⟩
end
theorem sE.gz {n:Nat} {w0:World} {c c':Cx} {b:Nat} {e:TypeId} {sz:Nat} {es:List AV} (h:sE w0 c b e sz es) (hle:c.WJ n c') (hρ:c'.ρ b=c.ρ b) (hw:c'.w=c.w) (hf:c8 n es):sE w0 c' b e sz es:=by
 rcases h with⟨hz,h⟩|⟨hz,h⟩
 ·refine .inl ⟨hz, ?_⟩
  rw[hρ]
  rcases h with h|⟨blk,o,z,h0,h1,h2,h4,h5⟩
  ·exact .inl h
  ·exact .inr ⟨blk,o,z,h0,h1,by rw[hw];exact h2,h4,eA.gz hle (by rw[hw]) hf h5⟩
 ·obtain⟨r,x,ms,clk,h0,h1,h2,h3,h4,h5⟩:=h
  subst h3
  simp only[c8,and_true] at hf
  exact .inr ⟨hz,r,x,ms,clk,hρ.trans h0,h1,by rw[hw];exact h2,rfl,VR.gz hle hf h4,h5⟩
def base (w:World) (M:Nat->Prop):Cx:=⟨fun _=>none,fun _=>none,fun _=>False,w,M⟩
theorem nH {w:World} {M:Nat->Prop} {b:Nat}:(base w M).M b↔M b:=by
 simp[Cx.M,base]
theorem VR.nr {c:Cx} {M:Nat->Prop} (hM:∀b,M b->c.M b) {a:AV} {v:Value} (hf:cH 0 a) (h:VR c a v):VR (base c.w M) a v:=
 VR.gz (n:=0) (c:=c) (c':=base c.w M) ⟨fun b hb=>by omega,fun b hm _=>⟨rfl,fun hh=>hm (hM b (nH.1 hh))⟩,fun b hb=>by omega⟩ hf h
theorem cu.nr {c:Cx} {M:Nat->Prop} (hM:∀b,M b->c.M b) {as:List AV} {vs:List Value} (hf:c8 0 as) (h:cu c as vs):cu (base c.w M) as vs:=
 cu.gz (n:=0) (c:=c) (c':=base c.w M) ⟨fun b hb=>by omega,fun b hm _=>⟨rfl,fun hh=>hm (hM b (nH.1 hh))⟩,fun b hb=>by omega⟩ hf h
theorem xi {c:Cx}:(base c.w c.M).le c:=
 ⟨fun _ h=>h.elim,Nat.le_refl _,fun _ hm _=>⟨rfl,fun h=>hm (nH.2 h)⟩,fun _ hb=>hb.elim⟩
mutual
/-- Own memory that is written no more. -/
def dY (H:Hp):Nat->AV->AV
 |_, .sc u=> .sc u
 |0,a=>a
 |k+1, .sl b len=>match bt H b with
  |some (.row _ sz _ es)=>if es.length=len then .im sz .any (es.map (dY H k)) else .sl b len
  |none=> .sl b len
 |k+1, .sv b len lo n=>match bt H b with
  |some (.row _ sz _ es)=>if es.length=len then .im sz .any (((es.drop lo).take n).map (dY H k)) else .sv b len lo n
  |none=> .sv b len lo n
 |k+1, .pt b len i off=>match bt H b with
  |some (.row _ sz _ es)=>if es.length=len then .ip sz .any (es.map (dY H k)) i off else .pt b len i off
  |none=> .pt b len i off
 |k+1, .agg cs=> .agg (cs.map (dY H k))
 |k+1, .dI cs=> .dI (cs.map (dY H k))
 |k+1, .fn f p q=> .fn f (p.map (dY H k)) (q.map (dY H k))
 |k+1, .nA t x=> .nA t (dY H k x)
 |_+1,a=>a
end
theorem cu.map {c c':Cx} (f:AV->AV):∀{as:List AV} {vs:List Value},(∀a∈as,∀v,VR c a v->VR c' (f a) v)->cu c as vs->cu c' (as.map f) vs
 |[],vs,_,h=>by rw[cu] at h;subst h;simp only[List.map_nil];rw[cu]
 |a::as,vs,hf,h=>by
  rw[cu] at h
  obtain⟨v,vs',rfl,h1,h2⟩:=h
  simp only[List.map_cons]
  rw[cu]
  exact⟨v,vs',rfl,hf a (by simp) v h1,cu.map f (fun a ha=>hf a (by simp[ha])) h2⟩
theorem l3 {w0:World} {c:Cx} {H:Hp} (h:dy w0 c) (hH:c.H=bt H):∀(k:Nat) {a:AV} {v:Value},cH 0 (dY H k a)->VR c a v->VR (base c.w c.M0) (dY H k a) v:=by
 intro k
 have hM:∀b,c.M0 b->c.M b:=fun b hb=> .inl hb
 induction k with
 |zero=>
  intro a v hf hv
  cases a<;>simp only[dY] at hf ⊢ <;>exact hv.nr hM hf
 |succ k ih=>
  intro a v hf hv
  cases a<;>try(simp only[dY] at hf ⊢;exact hv.nr hM hf)
  case sl b len=>
   simp only[dY] at hf ⊢
   cases hb:bt H b with
   |none=>rw[hb] at hf;simp only[cH] at hf;omega
   |some q=>
    obtain⟨e,sz,d,es⟩:=q
    rw[hb] at hf
    simp only at hf ⊢
    split at hf
    ·rename_i hlen
     rw[if_pos hlen]
     rw[cH,cD] at hf
     rw[VR] at hv
     obtain⟨_,ad,cap,rfl,hr⟩:=hv
     rw[<-hH] at hb
     obtain⟨_,hr⟩:=hr _ _ _ _ hb
     obtain⟨_,hz,hrow⟩:=h.kO b _ _ _ _ hb (vI (hr hlen))
     rw[VR]
     rcases hr hlen with⟨hρ,rfl,rfl⟩|⟨blk,o,z,hρ,rfl,hc1,_,_⟩
     ·rcases hrow with⟨_,he⟩|⟨_,_,_,hρ',_⟩
      ·subst he;simp at hlen;subst hlen
       exact⟨none,0,by simp,by simp, .inl (by simp)⟩
      ·rw[hρ] at hρ';cases hρ'
     ·rcases hrow with⟨hρ',_⟩|⟨blk1,o1,z1,hρ1,hlow,_,_,hrow⟩
      ·rw[hρ] at hρ';cases hρ'
      ·rw[hρ] at hρ1;cases hρ1
       refine⟨_,cap,by simp[hlen],by simpa[hlen] using hc1, .inr ⟨blk,o,rfl,hz,fun hm=> ?_,kV fun i hi=> ?_⟩⟩
       ·have:=h.m0.lt blk (nH.1 hm);omega
       ·simp only[List.length_map] at hi
        obtain⟨u,h1,h2⟩:=eC hrow i hi
        refine⟨u,h1, ?_⟩
        have e1:(es.map (dY H k)).getD i .any=dY H k (es.getD i .any):=by
         simp[List.getD,hi]
        rw[e1]
        refine ih (hf _ ?_) h2
        simp[List.getD,hi]
    ·simp only[cH] at hf;omega
  case pt b len i off=>
   simp only[dY] at hf ⊢
   cases hb:bt H b with
   |none=>rw[hb] at hf;simp only[cH] at hf;omega
   |some q=>
    obtain⟨e,sz,d,es⟩:=q
    rw[hb] at hf
    simp only at hf ⊢
    split at hf
    ·rename_i hlen
     rw[if_pos hlen]
     rw[cH,cD] at hf
     rw[VR] at hv
     obtain⟨_,hi,ad,rfl,hr⟩:=hv
     rw[<-hH] at hb
     obtain⟨_,hr⟩:=hr _ _ _ _ hb
     obtain⟨ho,blk,o,z,hρ,rfl⟩:=hr hlen
     obtain⟨_,hz,hrow⟩:=h.BC b _ _ _ _ hb (by omega)
     rw[VR]
     rcases hrow with⟨hρ',_⟩|⟨blk1,o1,z1,hρ1,hlow,_,_,hrow⟩
     ·rw[hρ] at hρ';cases hρ'
     ·rw[hρ] at hρ1;cases hρ1
      refine⟨by simp;omega,ho,blk,o,rfl,fun hm=> ?_,kV fun i hi=> ?_⟩
      ·have:=h.m0.lt blk (nH.1 hm);omega
      ·simp only[List.length_map] at hi
       obtain⟨u,h1,h2⟩:=eC hrow i hi
       refine⟨u,h1, ?_⟩
       have e1:(es.map (dY H k)).getD i .any=dY H k (es.getD i .any):=by
        simp[List.getD,hi]
       rw[e1]
       refine ih (hf _ ?_) h2
       simp[List.getD,hi]
    ·simp only[cH] at hf;omega
  case sv b len lo n=>
   simp only[dY] at hf ⊢
   cases hb:bt H b with
   |none=>rw[hb] at hf;simp only[cH] at hf;omega
   |some q=>
    obtain⟨e,sz,d,es⟩:=q
    rw[hb] at hf
    simp only at hf ⊢
    split at hf
    ·rename_i hlen
     rw[if_pos hlen]
     rw[cH,cD] at hf
     rw[VR] at hv
     obtain⟨_,hln,ad,cap,rfl,hcap,hr⟩:=hv
     rw[<-hH] at hb
     obtain⟨_,hr⟩:=hr _ _ _ _ hb
     obtain⟨_,hz,hrow⟩:=h.kO b _ _ _ _ hb (KC (hr hlen).2)
     have hl2:(((es.drop lo).take n).map (dY H k)).length=n:=by simp;omega
     rw[VR]
     refine⟨ad,cap,by rw[hl2],by rw[hl2];exact hcap, ?_⟩
     rcases hr hlen with h0|⟨blk,o,z,hρ,rfl⟩
     ·subst h0;exact .inl (by simp)
     ·rcases hrow with⟨hρ',_⟩|⟨blk1,o1,z1,hρ1,hlow,_,_,hrow⟩
      ·rw[hρ] at hρ';cases hρ'
      ·rw[hρ] at hρ1;cases hρ1
       refine .inr ⟨blk,o+lo * sz,rfl,hz,fun hm=> ?_,kV fun i hi=> ?_⟩
       ·have:=h.m0.lt blk (nH.1 hm);omega
       ·rw[hl2] at hi
        obtain⟨u,h1,h2⟩:=eC (jK hrow lo n (by omega)) i (by simp;omega)
        refine⟨u,h1, ?_⟩
        have hil:i<((es.drop lo).take n).length:=by simp;omega
        have e1:(((es.drop lo).take n).map (dY H k)).getD i .any=dY H k (((es.drop lo).take n).getD i .any):=by
         simp only[List.getD,List.getElem?_map,List.getElem?_eq_getElem hil,Option.map_some,Option.getD_some]
        rw[e1]
        refine ih (hf _ ?_) h2
        simp only[List.getD,List.getElem?_eq_getElem hil,Option.getD_some]
        exact List.getElem_mem hil
    ·simp only[cH] at hf;omega
  case agg cs=>
   simp only[dY] at hf ⊢
   rw[VR] at hv
   obtain⟨vs,rfl,hr⟩:=hv
   rw[cH,cD] at hf
   rw[VR]
   exact⟨vs,rfl,cu.map _ (fun a ha v hv=>ih (hf a ha) hv) hr⟩
  case dI cs=>
   simp only[dY] at hf ⊢
   rw[VR] at hv
   obtain⟨vs,rfl,hr⟩:=hv
   rw[cH,cD] at hf
   rw[VR]
   exact⟨vs,rfl,cu.map _ (fun a ha v hv=>ih (hf a ha) hv) hr⟩
  case fn f p q=>
   simp only[dY] at hf ⊢
   rw[VR] at hv
   obtain⟨ps,qs,rfl,h1,h2⟩:=hv
   rw[cH,cD,cD] at hf
   rw[VR]
   exact⟨ps,qs,rfl,cu.map _ (fun a ha v hv=>ih (hf.1 a ha) hv) h1,cu.map _ (fun a ha v hv=>ih (hf.2 a ha) hv) h2⟩
  case nA t x=>
   simp only[dY] at hf ⊢
   rw[VR] at hv
   obtain⟨u,rfl,h1⟩:=hv
   rw[cH] at hf
   rw[VR]
   exact⟨u,rfl,ih hf h1⟩
end Go.cw
end
