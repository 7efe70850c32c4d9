import Derived.Test.YtjopoheligmmoaaGreatDoorM5
section
/- All steps in one theorem. -/
set_option linter.unusedVariables false
namespace Go.cZ
open Go.RowKit
section
variable {P:Program} {o:Oper} {a:Act} {w0:World} {c:Cx} {id:Nat} {fr:Fr} {H:Hp} {lop:dM} {r:AV} {u:Option (Nat×eU)}
theorem FC {x:Operand} {x':eA} (ho:o.op= .move x∨o.op= .assign x) (h:dZ w0 c) (hF:FR c fr a.tmps) (h1:cJ x=some x'):eE P o a w0 c id (ev fr x') c.H:=by
 refine cL (v:=a.eval x) h ?_ (fi hF h1)
 unfold execOp
 rcases ho with ho|ho<;>simp[ho]
theorem NF {x:Operand} {x':eA} {i:Nat} {vs:List AV} (ho:o.op= .extract x i) (h:dZ w0 c) (hF:FR c fr a.tmps) (h1:cJ x=some x') (ex:ev fr x'= .dK vs) (hi:i<vs.length):eE P o a w0 c id (vs.getD i .any) c.H:=by
 have hx:=fi hF h1
 rw[ex,VR] at hx
 obtain⟨us,hv,hr⟩:=hx
 obtain⟨v,h2,h3⟩:=hr.get i hi
 refine cL (v:=v) h ?_ h3
 have:us[i]?=some v:=by simpa using h2
 unfold execOp
 simp[ho,hv,Instr.extract,this]
theorem NK {f:Fn} {p q:Array Operand} {p' q':List eA} (ho:o.op= .makeFunc f p q) (h:dZ w0 c) (hF:FR c fr a.tmps) (h1:mJ p.toList=some p') (h2:mJ q.toList=some q'):eE P o a w0 c id (.fn f (qd fr p') (qd fr q')) c.H:=by
 refine cL (v:= .func f (p.map a.eval) (q.map a.eval)) h ?_ ?_
 ·unfold execOp
  simp[ho,Instr.makeFunc]
 ·rw[VR]
  exact⟨_,_,rfl,by simpa using jH hF h1,by simpa using jH hF h2⟩
theorem NL {t:TypeId} {x:Operand} {x':eA} {d:TypeDesc} (ho:o.op= .makeInterface t x) (ht:P.underlying t=some d) (hd:∀ms,d≠ .interface ms) (h:dZ w0 c) (hF:FR c fr a.tmps) (h1:cJ x=some x'):eE P o a w0 c id (.l9 t (ev fr x')) c.H:=by
 refine cL (v:= .iface t (a.eval x)) h ?_ (by rw[VR];exact⟨_,rfl,fi hF h1⟩)
 unfold execOp
 simp only[ho,Instr.makeInterface,Sem.run_bind,run_underlying ht,Result.andThen_ok]
 cases d<;>first|exact absurd rfl (hd _)|simp
theorem NG {t:TypeId} {x:Operand} {x':eA} {f:Nat} {fs:Array Field} {fl:Field} {ag:Bool} {k:Nat} {cs:List AV} (ho:o.op= .field t x f) (ht:P.underlying t=some (.struct fs)) (hf:fs[f]?=some fl) (hg:fg P fl.type=some ag) (hk:jq P fl.type=some k) (hk1:ag=false→k=1)
 (h:dZ w0 c) (hF:FR c fr a.tmps) (h1:cJ x=some x') (ex:ev fr x'= .agg cs) (hle:fl.offset+k≤cs.length):eE P o a w0 c id (if ag then .agg ((cs.drop fl.offset).take k) else cs.getD fl.offset .any) c.H:=by
 have hx:=fi hF h1
 rw[ex,VR] at hx
 obtain⟨vs,hv,hr⟩:=hx
 obtain⟨v,h2,h3⟩:=AR hg hk hk1 hr fl.offset hle c.w
 refine cL (v:=v) h ?_ h3
 unfold execOp
 simp[ho,hv,Instr.field,run_underlying ht,hf,asAgg,h2]
theorem RM {t e:TypeId} {x i:Operand} {x' i':eA} {n:Nat} {ag:Bool} {k:Nat} {cs:List AV} {kk:IntKind} {j:Int} (ho:o.op= .index t x i) (ht:P.underlying t=some (.array n e)) (hg:fg P e=some ag) (hk:jq P e=some k) (hk1:ag=false→k=1)
 (h:dZ w0 c) (hF:FR c fr a.tmps) (h1:cJ x=some x') (h2:cJ i=some i') (ex:ev fr x'= .agg cs) (ei:ev fr i'= .sc (.int kk j)) (h0:0≤j) (hj:j<n) (hn:n * k=cs.length):eE P o a w0 c id (if ag then .agg ((cs.drop (j.toNat * k)).take k) else cs.getD (j.toNat * k) .any) c.H:=by
 have hx:=fi hF h1
 have hi:=fi hF h2
 rw[ex,VR] at hx
 rw[ei,VR] at hi
 obtain⟨vs,hv,hr⟩:=hx
 have hle:j.toNat * k+k≤cs.length:=by rw[←hn,←Nat.succ_mul];exact Nat.mul_le_mul_right _ (by omega)
 obtain⟨v,h3,h4⟩:=AR hg hk hk1 hr (j.toNat * k) hle c.w
 refine cL (v:=v) h ?_ h4
 unfold execOp
 simp[ho,hv,hi,Instr.index,run_underlying ht,asIntOf,h0,hj,run_sizeOf hk,h3]
theorem step_eq {op:BinOp} {t yt:TypeId} {x y:Operand} {x' y':eA} (ho:o.op= .binOp op t x y yt) (hl:zt P op t x' y'=some lop) (hs:cC id fr H lop=some (r,u)) (h:dZ w0 c) (hF:FR c fr a.tmps) (h1:cJ x=some x') (h2:cJ y=some y'):
 eE P o a w0 c id r c.H∧u=none:=by
 unfold zt at hl
 split at hl
 ·rename_i ks hk
  simp only[Option.ite_none_left_eq_some,not_or,Decidable.not_not] at hl
  obtain⟨⟨hm,hag⟩,hl⟩:=hl
  split at hl
  ·simp only[Option.some.injEq] at hl
   subst hl
   simp only[cC] at hs
   split at hs
   ·rename_i as bs ex ey
    split at hs
    ·rename_i q hq
     simp only[Option.some.injEq,Prod.mk.injEq] at hs
     obtain⟨rfl,rfl⟩:=hs
     exact⟨yJ (neg:=false) ho rfl hk hag (by simpa using hm) h hF h1 h2 ex ey hq,rfl⟩
    ·simp at hs
   ·simp at hs
  ·simp only[Option.some.injEq] at hl
   subst hl
   simp only[cC] at hs
   split at hs
   ·rename_i as bs ex ey
    split at hs
    ·rename_i q hq
     simp only[Option.some.injEq,Prod.mk.injEq] at hs
     obtain⟨rfl,rfl⟩:=hs
     exact⟨yJ (neg:=true) ho rfl hk hag (by simpa using hm) h hF h1 h2 ex ey hq,rfl⟩
    ·simp at hs
   ·simp at hs
  ·simp at hl
 ·simp at hl
theorem EB (hl:qO P o=some lop) (hs:cC id fr H lop=some (r,u)) (h:dZ w0 c) (hH:c.H=bu H) (hF:FR c fr a.tmps) (hid:¬c.U id):eE P o a w0 c id r (bu (dC H u)):=by
 cases hop:o.op<;>simp only[qO,hop,reduceCtorEq] at hl
 case move x=>
  simp only[Option.map_eq_some_iff] at hl
  obtain⟨x',h1,rfl⟩:=hl
  simp only[cC,Option.some.injEq,Prod.mk.injEq] at hs
  obtain⟨rfl,rfl⟩:=hs
  simpa[dC,←hH] using FC (.inl hop) h hF h1
 case assign x=>
  simp only[Option.map_eq_some_iff] at hl
  obtain⟨x',h1,rfl⟩:=hl
  simp only[cC,Option.some.injEq,Prod.mk.injEq] at hs
  obtain⟨rfl,rfl⟩:=hs
  simpa[dC,←hH] using FC (.inr hop) h hF h1
 case pick k x y=>
  split at hl
  ·rename_i k' x' y' h1 h2 h3
   simp only[Option.some.injEq] at hl
   subst hl
   simp only[cC] at hs
   split at hs
   ·rename_i t hk
    simp only[Option.some.injEq,Prod.mk.injEq] at hs
    obtain⟨rfl,rfl⟩:=hs
    simpa[dC,←hH] using I6 hop h hF h1 h2 h3 hk
   ·simp at hs
  ·simp at hl
 case alloc e=>
  split at hl
  ·rename_i n hp
   simp only[Option.some.injEq] at hl
   subst hl
   simp only[cC,Option.some.injEq,Prod.mk.injEq] at hs
   obtain⟨rfl,rfl⟩:=hs
   rw[dU,←hH]
   exact M8 hop hp h hid
  split at hl
  ·rename_i p hp
   obtain⟨sz,v⟩:=p
   simp only[Option.some.injEq] at hl
   subst hl
   simp only[cC,Option.some.injEq,Prod.mk.injEq] at hs
   obtain⟨rfl,rfl⟩:=hs
   rw[dU,←hH]
   exact IZ hop hp h hid _
  ·simp only[Option.map_eq_some_iff] at hl
   obtain⟨⟨sz,ag,z⟩,h1,rfl⟩:=hl
   simp only[cC,Option.ite_none_right_eq_some,Option.some.injEq,Prod.mk.injEq] at hs
   obtain⟨_,rfl,rfl⟩:=hs
   rw[dU,←hH]
   exact CI hop h1 h hid _
 case makeMap t rs=>
  split at hl
  ·rename_i kt et ht
   simp only[Option.ite_none_right_eq_some,Option.some.injEq,Bool.and_eq_true] at hl
   obtain⟨⟨_,hr⟩,rfl⟩:=hl
   simp only[cC,Option.some.injEq,Prod.mk.injEq] at hs
   obtain⟨rfl,rfl⟩:=hs
   rw[dU,←hH]
   exact NM hop ht hr h hid _
  ·simp at hl
 case lookup t x k ok=>
  split at hl
  ·rename_i kt e x' k' ht h1 h2
   split at hl
   ·rename_i str p hk hz
    obtain⟨sz,ag,z⟩:=p
    simp only[Option.some.injEq] at hl
    subst hl
    simp only[cC] at hs
    split at hs
    ·rename_i b et dd es kv hm hkv
     simp only[Option.ite_none_right_eq_some] at hs
     obtain⟨hok,hs⟩:=hs
     split at hs
     ·rename_i i v hf
      simp only[Option.some.injEq,Prod.mk.injEq] at hs
      obtain⟨rfl,rfl⟩:=hs
      simpa[dC,←hH] using yK hop ht hk hz h hH hF h1 h2 hm hkv hok hf
     ·rename_i hf
      simp only[Option.some.injEq,Prod.mk.injEq] at hs
      obtain⟨rfl,rfl⟩:=hs
      simpa[dC,←hH] using yK hop ht hk hz h hH hF h1 h2 hm hkv hok hf
     ·simp at hs
    ·simp at hs
   ·simp at hl
  ·simp at hl
 case mapUpdate t x k y=>
  split at hl
  ·rename_i kt e x' k' y' ht h1 h2 h3
   simp only[Option.map_eq_some_iff] at hl
   obtain⟨str,hk,rfl⟩:=hl
   simp only[cC] at hs
   split at hs
   ·rename_i b et dd es kv hm hkv
    simp only[Option.ite_none_right_eq_some] at hs
    obtain⟨hok,hs⟩:=hs
    split at hs
    ·rename_i i v hf
     simp only[Option.some.injEq,Prod.mk.injEq] at hs
     obtain⟨rfl,rfl⟩:=hs
     rw[dU,←hH]
     exact oj (.inl hop) ht hk h hH hF h1 h2 h3 hm hkv hok hf
    ·rename_i hf
     simp only[Option.some.injEq,Prod.mk.injEq] at hs
     obtain⟨rfl,rfl⟩:=hs
     rw[dU,←hH]
     exact oj (.inl hop) ht hk h hH hF h1 h2 h3 hm hkv hok hf
    ·simp at hs
   ·simp at hs
  ·simp at hl
 case insert t x k y=>
  split at hl
  ·rename_i kt e x' k' y' ht h1 h2 h3
   simp only[Option.map_eq_some_iff] at hl
   obtain⟨str,hk,rfl⟩:=hl
   simp only[cC] at hs
   split at hs
   ·rename_i b et dd es kv hm hkv
    simp only[Option.ite_none_right_eq_some] at hs
    obtain⟨hok,hs⟩:=hs
    split at hs
    ·rename_i i v hf
     simp only[Option.some.injEq,Prod.mk.injEq] at hs
     obtain⟨rfl,rfl⟩:=hs
     rw[dU,←hH]
     exact oj (.inr hop) ht hk h hH hF h1 h2 h3 hm hkv hok hf
    ·rename_i hf
     simp only[Option.some.injEq,Prod.mk.injEq] at hs
     obtain⟨rfl,rfl⟩:=hs
     rw[dU,←hH]
     exact oj (.inr hop) ht hk h hH hF h1 h2 h3 hm hkv hok hf
    ·simp at hs
   ·simp at hs
  ·simp at hl
 case typeAssert x xt t ok=>
  split at hl
  ·simp at hl
  ·rename_i d p x' hne h1 h2 h3
   obtain⟨sz,ag,z⟩:=p
   simp only[Option.some.injEq] at hl
   subst hl
   simp only[cC] at hs
   split at hs
   ·rename_i t' v hx
    have hs':(if t'=t then some (if ok then AV.dK [v, .sc (.bool true)] else v) else if ok then some (.dK [gM ag z, .sc (.bool false)]) else none)=some r∧u=none:=by
     split at hs
     ·simp only[Option.some.injEq,Prod.mk.injEq] at hs
      obtain⟨rfl,rfl⟩:=hs
      rename_i e
      exact⟨by rw[if_pos e],rfl⟩
     ·rename_i e
      simp only[Option.ite_none_right_eq_some,Option.some.injEq,Prod.mk.injEq] at hs
      obtain⟨e2,rfl,rfl⟩:=hs
      exact⟨by rw[if_neg e,if_pos e2],rfl⟩
    obtain⟨hs1,rfl⟩:=hs'
    simpa[dC,←hH] using NP hop h1 (fun ms e=>by subst e;exact hne _ rfl) h2 h hF h3 hx hs1
   ·simp at hs
  ·simp at hl
 case box e x=>
  split at hl
  ·rename_i p hp
   obtain⟨sz,v⟩:=p
   simp only[Option.map_eq_some_iff] at hl
   obtain⟨x',h2,rfl⟩:=hl
   simp only[cC,Option.ite_none_right_eq_some,Option.some.injEq,Prod.mk.injEq] at hs
   obtain⟨hf,rfl,rfl⟩:=hs
   rw[dU,←hH]
   obtain⟨_,_,_,_,_,_,hpos⟩:=xE hp
   exact yF hop hf hpos h hid rfl (fi hF h2) _
  ·split at hl
   ·rename_i p x' h1 h2
    obtain⟨sz,ag,z⟩:=p
    simp only[Option.some.injEq] at hl
    subst hl
    simp only[cC,Option.ite_none_right_eq_some,Option.some.injEq,Prod.mk.injEq] at hs
    obtain⟨hf,rfl,rfl⟩:=hs
    rw[dU,←hH]
    obtain⟨_,_,_,_,_,_,_,_,_,hpos,_⟩:=iK h1
    exact yF hop hf hpos h hid rfl (fi hF h2) _
   ·simp at hl
 case build t parts=>
  split at hl
  ·rename_i p hp
   obtain⟨sz,v⟩:=p
   simp only[Option.ite_none_right_eq_some,Bool.and_eq_true] at hp
   obtain⟨⟨he,hpl⟩,hp⟩:=hp
   have he:parts=#[]:=by simpa using he
   subst he
   simp only[Option.some.injEq] at hl
   subst hl
   simp only[cC,Option.some.injEq,Prod.mk.injEq] at hs
   obtain⟨rfl,rfl⟩:=hs
   simpa[dC,←hH] using I1 hop hpl hp h
  split at hl
  ·rename_i pl z h1 h2
   simp only[Option.map_eq_some_iff] at hl
   obtain⟨qs,h3,rfl⟩:=hl
   simp only[cC] at hs
   split at hs
   ·rename_i cs hf
    simp only[Option.some.injEq,Prod.mk.injEq] at hs
    obtain⟨rfl,rfl⟩:=hs
    unfold zcs at h2
    cases hi:P.info? t with
    |none=>rw[hi] at h2;simp at h2
    |some it=>
     rw[hi] at h2
     simp only[Option.bind_some,Option.map_eq_some_iff] at h2
     obtain⟨zv,hz,rfl⟩:=h2
     have hp:=sx hF h3
     have:eE P o a w0 c id (.agg cs) c.H:=by
      refine s7 (place:=placeOf pl) hop hi hz ?_ h (by simpa using hp) hf
      unfold pN at h1
      split at h1
      ·rename_i n e ht
       simp only[Option.map_eq_some_iff] at h1
       obtain⟨ie,h4,rfl⟩:=h1
       exact .inl ⟨n,e,ie,ht,h4,rfl⟩
      ·rename_i fs ht
       simp only[Option.map_eq_some_iff] at h1
       obtain⟨ps,h4,rfl⟩:=h1
       exact .inr ⟨fs,ps,ht,h4,rfl⟩
      ·simp at h1
     simpa[dC,←hH] using this
   ·simp at hs
  ·simp at hl
 case buildSlice t n parts=>
  split at hl
  ·rename_i e ht
   split at hl
   ·rename_i p q h1 h2
    obtain⟨sz,ag,z⟩:=p
    simp only[Option.ite_none_right_eq_some,Option.some.injEq] at hl
    obtain⟨hsm,rfl⟩:=hl
    simp only[cC,Option.ite_none_right_eq_some,Option.some.injEq,Prod.mk.injEq] at hs
    obtain⟨⟨_,hall⟩,rfl,rfl⟩:=hs
    rw[dU,←hH]
    obtain⟨g1,g2⟩:=sy hF h2
    exact yG (jt h1).2 hop ht (jt h1).1 hsm h hid (by simpa using g1) (by simpa using g2) hall _
   ·simp at hl
  ·simp at hl
 case load t x=>
  split at hl
  ·rename_i ag k x' h1 h2 h3
   simp only[Option.ite_none_left_eq_some,Option.some.injEq] at hl
   obtain⟨hk1,rfl⟩:=hl
   simp only[cC] at hs
   split at hs
   ·rename_i sz e off hlk
    simp only[Option.map_eq_some_iff,Prod.mk.injEq] at hs
    obtain⟨r',hr,rfl,rfl⟩:=hs
    obtain⟨blk,o',v,hv,hat,hve,hlt⟩:=qL h hH (fi hF h3) hlk
    simpa[dC,←hH] using I4 hop h1 h2 h hv hat hve hlt hr (fun hag=>by
     by_cases hk:k=1
     ·exact hk
     ·exact absurd ⟨hag,hk⟩ hk1)
   ·simp at hs
  ·simp at hl
 case store t x y=>
  split at hl
  ·rename_i ag k x' y' h1 h2 h3 h4
   simp only[Option.ite_none_left_eq_some,Option.some.injEq] at hl
   obtain⟨hk1,rfl⟩:=hl
   simp only[cC] at hs
   split at hs
   ·rename_i b len i off hx
    split at hs
    ·rename_i e sz d es hb
     simp only[Option.ite_none_right_eq_some] at hs
     obtain⟨hlen,hs⟩:=hs
     split at hs
     ·rename_i e' hst
      simp only[Option.some.injEq,Prod.mk.injEq] at hs
      obtain⟨rfl,rfl⟩:=hs
      rw[dU,←hH]
      have hxv:=fi hF h3
      rw[hx,VR] at hxv
      obtain⟨_,hi,ad,hv,hr⟩:=hxv
      rw[←hH] at hb
      obtain⟨_,hr⟩:=hr _ _ _ _ hb
      obtain⟨hoff,blk,o',z,hρ,rfl⟩:=hr hlen
      exact CJ hop h2 (fun hag=>by
       by_cases hk:k=1
       ·exact hk
       ·exact absurd ⟨hag,hk⟩ hk1) h hb hρ hv (by omega) hoff (fi hF h4) hst
     ·simp at hs
    ·simp at hs
   ·simp at hs
  ·simp at hl
 case nilCheck x=>
  simp only[Option.map_eq_some_iff] at hl
  obtain⟨x',h1,rfl⟩:=hl
  simp only[cC] at hs
  split at hs<;>simp only[Option.some.injEq,Prod.mk.injEq,reduceCtorEq] at hs
  ·rename_i b len i off hx
   obtain⟨rfl,rfl⟩:=hs
   simpa[dC,←hH] using om hop h hF h1 hx (.inl ⟨_,_,_,_,rfl⟩)
  ·rename_i sz d es i off hx
   obtain⟨rfl,rfl⟩:=hs
   simpa[dC,←hH] using om hop h hF h1 hx (.inr (.inl ⟨_,_,_,_,_,rfl⟩))
  ·rename_i f p q hx
   obtain⟨rfl,rfl⟩:=hs
   simpa[dC,←hH] using om hop h hF h1 hx (.inr (.inr (.inl ⟨_,_,_,rfl⟩)))
  ·rename_i t v hx
   obtain⟨rfl,rfl⟩:=hs
   simpa[dC,←hH] using om hop h hF h1 hx (.inr (.inr (.inr ⟨_,_,rfl⟩)))
 case binOp op t x y yt=>
  split at hl
  ·rename_i k x' y' h1 h2 h3
   simp only[Option.some.injEq] at hl
   subst hl
   simp only[cC,Option.map_eq_some_iff,Prod.mk.injEq] at hs
   obtain⟨r',hr,rfl,rfl⟩:=hs
   simpa[dC,←hH] using NA hop h hF h2 h3 hr
  ·rename_i x' y' h1 h2 h3
   split at hl
   ·simp only[Option.some.injEq] at hl
    subst hl
    simp only[cC] at hs
    split at hs
    ·rename_i p q ex ey
     simp only[Option.some.injEq,Prod.mk.injEq] at hs
     obtain⟨rfl,rfl⟩:=hs
     simpa[dC,←hH] using yI (neg:=false) hop h1 rfl h hF h2 h3 ex ey
    ·simp at hs
   ·simp only[Option.some.injEq] at hl
    subst hl
    simp only[cC] at hs
    split at hs
    ·rename_i p q ex ey
     simp only[Option.some.injEq,Prod.mk.injEq] at hs
     obtain⟨rfl,rfl⟩:=hs
     simpa[dC,←hH] using yI (neg:=true) hop h1 rfl h hF h2 h3 ex ey
    ·simp at hs
   ·simp at hl
  ·rename_i x' y' h1 h2 h3
   split at hl
   ·simp only[Option.some.injEq] at hl
    subst hl
    simp only[cC] at hs
    split at hs
    ·rename_i p q ex ey
     simp only[Option.some.injEq,Prod.mk.injEq] at hs
     obtain⟨rfl,rfl⟩:=hs
     simpa[dC,←hH] using s8 (neg:=false) hop rfl h hF h2 h3 ex ey
    ·simp at hs
   ·simp only[Option.some.injEq] at hl
    subst hl
    simp only[cC] at hs
    split at hs
    ·rename_i p q ex ey
     simp only[Option.some.injEq,Prod.mk.injEq] at hs
     obtain⟨rfl,rfl⟩:=hs
     simpa[dC,←hH] using s8 (neg:=true) hop rfl h hF h2 h3 ex ey
    ·simp at hs
   ·simp only[Option.some.injEq] at hl
    subst hl
    simp only[cC,Option.map_eq_some_iff,Prod.mk.injEq] at hs
    obtain⟨r',hr,rfl,rfl⟩:=hs
    simpa[dC,←hH] using ur hop (.inl rfl) h hF h2 h3 hr
   ·simp only[Option.some.injEq] at hl
    subst hl
    simp only[cC,Option.map_eq_some_iff,Prod.mk.injEq] at hs
    obtain⟨r',hr,rfl,rfl⟩:=hs
    simpa[dC,←hH] using ur hop (.inr rfl) h hF h2 h3 hr
   ·simp at hl
  ·rename_i e x' h1 h2 h3
   split at hl
   ·simp only[Option.some.injEq] at hl
    subst hl
    simp only[cC] at hs
    obtain⟨g1,g2⟩:=uu (P:=P) (id:=id) (neg:=false) hop h1 rfl h hF h2 (pB h3) hs
    subst g2
    simpa[dC,←hH] using g1
   ·simp only[Option.some.injEq] at hl
    subst hl
    simp only[cC] at hs
    obtain⟨g1,g2⟩:=uu (P:=P) (id:=id) (neg:=true) hop h1 rfl h hF h2 (pB h3) hs
    subst g2
    simpa[dC,←hH] using g1
   ·simp at hl
  ·rename_i e x' h1 h2 h3
   split at hl
   ·simp only[Option.some.injEq] at hl
    subst hl
    simp only[cC] at hs
    split at hs
    ·rename_i q hq
     simp only[Option.some.injEq,Prod.mk.injEq] at hs
     obtain⟨rfl,rfl⟩:=hs
     simpa[dC,←hH] using uw (P:=P) (id:=id) (neg:=false) hop h1 rfl h hH hF h2 (pB h3) hq
    ·simp at hs
   ·simp only[Option.some.injEq] at hl
    subst hl
    simp only[cC] at hs
    split at hs
    ·rename_i q hq
     simp only[Option.some.injEq,Prod.mk.injEq] at hs
     obtain⟨rfl,rfl⟩:=hs
     simpa[dC,←hH] using uw (P:=P) (id:=id) (neg:=true) hop h1 rfl h hH hF h2 (pB h3) hq
    ·simp at hs
   ·simp at hl
  ·rename_i fs x' y' h1 h2 h3
   obtain⟨g1,g2⟩:=step_eq (P:=P) (id:=id) hop hl hs h hF h2 h3
   subst g2
   simpa[dC,←hH] using g1
  ·rename_i n e x' y' h1 h2 h3
   obtain⟨g1,g2⟩:=step_eq (P:=P) (id:=id) hop hl hs h hF h2 h3
   subst g2
   simpa[dC,←hH] using g1
  ·simp at hl
 case slice t x lo hi mx=>
  cases mx with
  |some m=>
   cases lo with
   |some l=>simp at hl
   |none=>
    cases hi with
    |none=>simp at hl
    |some y=>
     simp only at hl
     split at hl
     ·rename_i e x' y' z' h1 h2 h3 h4
      simp only[Option.map_eq_some_iff] at hl
      obtain⟨k,hk,rfl⟩:=hl
      simp only[cC,Option.map_eq_some_iff,Prod.mk.injEq] at hs
      obtain⟨r',hr,rfl,rfl⟩:=hs
      simpa[dC,←hH] using NO hop h1 hk h hH hF h2 h3 h4 hr
     ·simp at hl
  |none=>
   have gen:(match P.underlying t,cJ x,tw lo,tw hi with
    |some (.slice e),some x,some lo,some hi=>(jq P e).map fun k=>dM.TV k x lo hi
    |_,_,_,_=>none)=some lop→eE P o a w0 c id r (bu (dC H u)):=by
    intro hl
    split at hl
    ·rename_i e x' lo' hi' h1 h2 h3 h4
     simp only[Option.map_eq_some_iff] at hl
     obtain⟨k,hk,rfl⟩:=hl
     simp only[cC,Option.map_eq_some_iff,Prod.mk.injEq] at hs
     obtain⟨r',hr,rfl,rfl⟩:=hs
     simpa[dC,←hH] using yL hop h1 hk h hH hF h2 h3 h4 hr
    ·simp at hl
   cases lo with
   |none=>
    simp only at hl
    exact gen hl
   |some y=>
    cases hi with
    |some z=>
     simp only at hl
     exact gen hl
    |none=>
     simp only at hl
     split at hl
     ·rename_i e x' y' h1 h2 h3
      simp only[Option.map_eq_some_iff] at hl
      obtain⟨k,hk,rfl⟩:=hl
      simp only[cC,Option.map_eq_some_iff,Prod.mk.injEq] at hs
      obtain⟨r',hr,rfl,rfl⟩:=hs
      simpa[dC,←hH] using yL hop h1 hk h hH hF h2 (lo':=some y') (hi':=none) (by simp[tw,h3]) rfl hr
     ·rename_i x' y' h1 h2 h3
      simp only[Option.map_eq_some_iff] at hl
      obtain⟨m,hm,rfl⟩:=hl
      simp only[cC,Option.map_eq_some_iff,Prod.mk.injEq] at hs
      obtain⟨r',hr,rfl,rfl⟩:=hs
      simpa[dC,←hH] using NN hop hm h hH hF h2 h3 hr
     ·simp at hl
 case unOp op t x=>
  simp only[Option.map_eq_some_iff] at hl
  obtain⟨x',h1,rfl⟩:=hl
  simp only[cC,Option.map_eq_some_iff,Prod.mk.injEq] at hs
  obtain⟨r',hr,rfl,rfl⟩:=hs
  simpa[dC,←hH] using RN hop h hF h1 hr
 case convert s t x=>
  split at hl
  ·rename_i j k x' h1 h2 h3
   simp only[Option.some.injEq] at hl
   subst hl
   simp only[cC] at hs
   split at hs
   ·rename_i k0 n ex
    simp only[Option.some.injEq,Prod.mk.injEq] at hs
    obtain⟨rfl,rfl⟩:=hs
    simpa[dC,←hH] using ND hop h1 h2 h hF h3 ex
   ·simp at hs
  ·rename_i e x' h1 h2 h3
   split at hl
   ·rename_i he
    simp only[Option.some.injEq] at hl
    subst hl
    simp only[cC] at hs
    split at hs
    ·rename_i xs hx
     simp only[Option.ite_none_right_eq_some,Option.map_eq_some_iff,Prod.mk.injEq] at hs
     obtain⟨hz,ns,hb,rfl,rfl⟩:=hs
     simpa[dC,←hH] using M9 hop h1 he h2 h hH hF h3 hx hz hb
    ·simp at hs
   ·simp at hl
  ·simp at hl
 case fieldAddr s x f=>
  split at hl
  ·rename_i fs x' h1 h2
   split at hl
   ·rename_i fl h3
    split at hl
    ·rename_i k h4
     simp only[Option.some.injEq] at hl
     subst hl
     simp only[cC] at hs
     obtain⟨g1,g2⟩:=RL (P:=P) (id:=id) hop h1 h3 h4 h hH hF h2 hs
     subst g2
     simpa[dC,←hH] using g1
    ·simp at hl
   ·simp at hl
  ·simp at hl
 case indexAddr t x i=>
  split at hl
  ·rename_i x' i' h1 h2
   split at hl
   ·rename_i e ht
    simp only[Option.map_eq_some_iff] at hl
    obtain⟨k,hk,rfl⟩:=hl
    simp only[cC,Option.map_eq_some_iff,Prod.mk.injEq] at hs
    obtain⟨r',hr,rfl,rfl⟩:=hs
    simpa[dC,←hH] using FB hop (.inl ⟨rfl,e,ht,hk⟩) h hH hF h1 h2 hr
   ·rename_i n e ht
    split at hl
    ·rename_i m hm
     simp only[Option.some.injEq] at hl
     subst hl
     simp only[cC,Option.map_eq_some_iff,Prod.mk.injEq] at hs
     obtain⟨r',hr,rfl,rfl⟩:=hs
     simpa[dC,←hH] using NH hop hm h hH hF h1 h2 hr
    simp only[Option.map_eq_some_iff] at hl
    obtain⟨k,hk,rfl⟩:=hl
    simp only[cC,Option.map_eq_some_iff,Prod.mk.injEq] at hs
    obtain⟨r',hr,rfl,rfl⟩:=hs
    simpa[dC,←hH] using FB hop (.inr ⟨n,e,rfl,ht,hk⟩) h hH hF h1 h2 hr
   ·simp at hl
  ·simp at hl
 case field t x f=>
  split at hl
  ·rename_i fs x' h1 h2
   split at hl
   ·rename_i fl h3
    split at hl
    ·rename_i ag k h4 h5
     simp only[Option.ite_none_left_eq_some,Option.some.injEq] at hl
     obtain⟨hk1,rfl⟩:=hl
     have hk1':ag=false→k=1:=fun hag=>by
      by_cases hk:k=1
      ·exact hk
      ·exact absurd ⟨hag,hk⟩ hk1
     simp only[cC] at hs
     split at hs
     ·rename_i cs ex
      simp only[Option.ite_none_right_eq_some] at hs
      obtain⟨hle,hs⟩:=hs
      have g:=NG (P:=P) (id:=id) hop h1 h3 h4 h5 hk1' h hF h2 ex hle
      cases ag with
      |true=>
       simp only[if_true,Option.some.injEq,Prod.mk.injEq] at hs
       obtain⟨rfl,rfl⟩:=hs
       simpa[dC,←hH] using g
      |false=>
       simp only[Bool.false_eq_true,if_false,Option.ite_none_right_eq_some,Option.some.injEq,Prod.mk.injEq] at hs
       obtain⟨_,rfl,rfl⟩:=hs
       simpa[dC,←hH] using g
     ·simp at hs
    ·simp at hl
   ·simp at hl
  ·simp at hl
 case index t x i=>
  split at hl
  ·rename_i n e x' i' h1 h2 h3
   split at hl
   ·rename_i ag k h4 h5
    simp only[Option.ite_none_left_eq_some,Option.some.injEq] at hl
    obtain⟨hk1,rfl⟩:=hl
    have hk1':ag=false→k=1:=fun hag=>by
     by_cases hk:k=1
     ·exact hk
     ·exact absurd ⟨hag,hk⟩ hk1
    have hxv:=fi hF h2
    simp only[cC] at hs
    split at hs
    ·rename_i cs kk j ex ei
     simp only[Option.ite_none_right_eq_some] at hs
     obtain⟨⟨h0,hj,hn⟩,hs⟩:=hs
     have g:=RM (P:=P) (id:=id) hop h1 h4 h5 hk1' h hF h2 h3 ex ei h0 hj hn
     cases ag with
     |true=>
      simp only[if_true,Option.some.injEq,Prod.mk.injEq] at hs
      obtain⟨rfl,rfl⟩:=hs
      simpa[dC,←hH] using g
     |false=>
      simp only[Bool.false_eq_true,if_false,Option.ite_none_right_eq_some,Option.some.injEq,Prod.mk.injEq] at hs
      obtain⟨_,rfl,rfl⟩:=hs
      simpa[dC,←hH] using g
    ·simp at hs
   ·simp at hl
  ·rename_i x' i' h1 h2 h3
   simp only[Option.some.injEq] at hl
   subst hl
   simp only[cC] at hs
   split at hs
   ·rename_i s kk j ex ei
    simp only[Option.ite_none_right_eq_some,Option.some.injEq,Prod.mk.injEq] at hs
    obtain⟨⟨h0,hj⟩,rfl,rfl⟩:=hs
    simpa[dC,←hH] using NI hop h1 h hF h2 h3 ex ei h0 hj
   ·simp at hs
  ·simp at hl
 case makeSlice t l k=>
  split at hl
  ·rename_i e l' k' h1 h2 h3
   split at hl
   ·rename_i p i h4 h5
    obtain⟨sz,ag,z⟩:=p
    simp only[Option.some.injEq] at hl
    subst hl
    simp only[cC] at hs
    split at hs
    ·rename_i kl n kc m el ek
     simp only[Option.ite_none_right_eq_some,Option.some.injEq,Prod.mk.injEq] at hs
     obtain⟨⟨_,h0,rfl,hb,h63⟩,rfl,rfl⟩:=hs
     rw[dU,←hH]
     have hlv:=fi hF h2
     have hkv:=fi hF h3
     rw[el,VR] at hlv
     rw[ek,VR] at hkv
     exact I5 (jt h4).2 hop h1 h5 (jt h4).1 h hid hlv hkv h0 hb h63 _
    ·simp at hs
   ·simp at hl
  ·simp at hl
 case extract x i=>
  simp only[Option.map_eq_some_iff] at hl
  obtain⟨x',h1,rfl⟩:=hl
  simp only[cC] at hs
  split at hs
  ·rename_i vs ex
   simp only[Option.ite_none_right_eq_some,Option.some.injEq,Prod.mk.injEq] at hs
   obtain⟨hi,rfl,rfl⟩:=hs
   simpa[dC,←hH] using NF hop h hF h1 ex hi
  ·simp at hs
 case makeFunc f p q=>
  split at hl
  ·rename_i p' q' h1 h2
   simp only[Option.some.injEq] at hl
   subst hl
   simp only[cC,Option.some.injEq,Prod.mk.injEq] at hs
   obtain⟨rfl,rfl⟩:=hs
   simpa[dC,←hH] using NK hop h hF h1 h2
  ·simp at hl
 case makeInterface t x=>
  split at hl
  ·simp at hl
  ·rename_i d x' hne h1 h2
   simp only[Option.some.injEq] at hl
   subst hl
   simp only[cC,Option.some.injEq,Prod.mk.injEq] at hs
   obtain⟨rfl,rfl⟩:=hs
   simpa[dC,←hH] using NL hop h1 (fun ms e=>by subst e;exact hne _ rfl) h hF h2
  ·simp at hl
 case call cl=>
  obtain⟨callee,args,argTypes⟩:=cl
  cases callee with
  |invoke recv m=>
   simp only at hl
   split at hl
   ·simp only[Option.some.injEq] at hl
    subst hl
    simp[cC] at hs
   ·simp at hl
  |value f=>
   simp only at hl
   split at hl
   ·simp only[Option.some.injEq] at hl
    subst hl
    simp[cC] at hs
   ·simp at hl
  |builtin b=>
   cases b<;>simp only[reduceCtorEq] at hl
   case len=>
    split at hl
    ·rename_i x t hx ht'
     have hargs:args=#[x]:=by rw[←Array.toArray_toList (xs:=args),hx]
     have htys:argTypes=#[t]:=by rw[←Array.toArray_toList (xs:=argTypes),ht']
     subst hargs htys
     split at hl
     ·rename_i e x' ht h1
      simp only[Option.some.injEq] at hl
      subst hl
      simp only[cC] at hs
      split at hs
      ·rename_i n hr
       simp only[Option.some.injEq,Prod.mk.injEq] at hs
       obtain⟨rfl,rfl⟩:=hs
       simpa[dC,←hH] using NJ hop ht h hF h1 hr
      ·simp at hs
     ·rename_i x' ht h1
      simp only[Option.some.injEq] at hl
      subst hl
      simp only[cC] at hs
      split at hs
      ·rename_i s ex
       simp only[Option.some.injEq,Prod.mk.injEq] at hs
       obtain⟨rfl,rfl⟩:=hs
       simpa[dC,←hH] using I3 hop ht h hF h1 ex
      ·simp at hs
     ·rename_i kt e x' ht h1
      simp only[Option.some.injEq] at hl
      subst hl
      simp only[cC] at hs
      split at hs
      ·rename_i b et dd es hm
       simp only[Option.some.injEq,Prod.mk.injEq] at hs
       obtain⟨rfl,rfl⟩:=hs
       simpa[dC,←hH] using I2 hop ht h hH hF h1 hm
      ·simp at hs
     ·simp at hl
    ·simp at hl
   case clear=>
    split at hl
    ·rename_i x t hx ht'
     have hargs:args=#[x]:=by rw[←Array.toArray_toList (xs:=args),hx]
     have htys:argTypes=#[t]:=by rw[←Array.toArray_toList (xs:=argTypes),ht']
     subst hargs htys
     split at hl
     ·rename_i e x' h1 h2
      simp only[Option.map_eq_some_iff] at hl
      obtain⟨⟨sz,ag,z⟩,hz,rfl⟩:=hl
      simp only[cC] at hs
      split at hs
      ·rename_i b len lo n ex
       split at hs
       ·rename_i e' s d es hb
        simp only[Option.ite_none_right_eq_some,Option.some.injEq,Prod.mk.injEq] at hs
        obtain⟨⟨hlen,rfl,hln⟩,rfl,rfl⟩:=hs
        rw[dU,←hH]
        exact NB hop h1 hz h hH hF h2 ex hb hlen hln
       ·simp at hs
      ·simp at hs
     ·simp at hl
    ·simp at hl
   case delete=>
    split at hl
    ·rename_i x k t t2 hx ht'
     have hargs:args=#[x,k]:=by rw[←Array.toArray_toList (xs:=args),hx]
     have htys:argTypes=#[t,t2]:=by rw[←Array.toArray_toList (xs:=argTypes),ht']
     subst hargs htys
     split at hl
     ·rename_i kt e x' k' ht h1 h2
      simp only[Option.map_eq_some_iff] at hl
      obtain⟨str,hk,rfl⟩:=hl
      simp only[cC] at hs
      split at hs
      ·rename_i b et dd es kv hm hkv
       simp only[Option.ite_none_right_eq_some] at hs
       obtain⟨hok,hs⟩:=hs
       split at hs
       ·rename_i i v hf
        simp only[Option.some.injEq,Prod.mk.injEq] at hs
        obtain⟨rfl,rfl⟩:=hs
        rw[dU,←hH]
        exact yH hop ht hk h hH hF h1 h2 hm hkv hok hf
       ·rename_i hf
        simp only[Option.some.injEq,Prod.mk.injEq] at hs
        obtain⟨rfl,rfl⟩:=hs
        rw[dU,←hH]
        exact yH hop ht hk h hH hF h1 h2 hm hkv hok hf
       ·simp at hs
      ·simp at hs
     ·simp at hl
    ·simp at hl
   case copy=>
    split at hl
    ·rename_i x y t t2 hx ht'
     have hargs:args=#[x,y]:=by rw[←Array.toArray_toList (xs:=args),hx]
     have htys:argTypes=#[t,t2]:=by rw[←Array.toArray_toList (xs:=argTypes),ht']
     subst hargs htys
     split at hl
     ·rename_i e x' y' h1 h2 h3
      simp only[Option.map_eq_some_iff] at hl
      obtain⟨k,hk,rfl⟩:=hl
      simp only[cC] at hs
      split at hs
      ·rename_i b len xs ex he
       split at hs
       ·rename_i e' s d es hb
        simp only[Option.ite_none_right_eq_some,Option.some.injEq,Prod.mk.injEq] at hs
        obtain⟨⟨hlen,rfl,hsz⟩,rfl,rfl⟩:=hs
        rw[dU,←hH]
        exact NC hop h1 hk h hH hF h2 h3 ex he hsz hb hlen
       ·simp at hs
      ·simp at hs
     ·simp at hl
    ·simp at hl
   case append=>
    split at hl
    ·rename_i s x t t2 hx ht'
     have hargs:args=#[s,x]:=by rw[←Array.toArray_toList (xs:=args),hx]
     have htys:argTypes=#[t,t2]:=by rw[←Array.toArray_toList (xs:=argTypes),ht']
     subst hargs htys
     split at hl
     ·rename_i e e2 s' x' h1 h2 h3 h4
      split at hl
      ·rename_i p i h5 h6
       obtain⟨sz,ag,z⟩:=p
       simp only[Option.ite_none_right_eq_some,Option.some.injEq] at hl
       obtain⟨hby,rfl⟩:=hl
       simp only[cC] at hs
       split at hs
       ·rename_i xs he
        simp only[Option.ite_none_right_eq_some] at hs
        obtain⟨⟨hsz,_⟩,hs⟩:=hs
        have hxv:=fi hF h4
        have hsv:=fi hF h3
        have g:=yE (P:=P) (id:=id) (s:=s) (jt h5).2 hop h1 h2 h6 (jt h5).1 hby h hH hxv he hsz
        split at hs
        ·rename_i hsn
         simp only[Option.ite_none_right_eq_some,Option.some.injEq,Prod.mk.injEq] at hs
         obtain⟨hb,rfl,rfl⟩:=hs
         rw[dU,←hH]
         rw[hsn,VR] at hsv
         exact g.1 hid _ hsv hb
        ·rename_i b len hsb
         split at hs
         ·rename_i e' sz' d es hrow
          simp only[Option.ite_none_right_eq_some,Option.some.injEq,Prod.mk.injEq] at hs
          obtain⟨⟨hlen,rfl,rfl,hb⟩,rfl,rfl⟩:=hs
          rw[dU,←hH]
          rw[hsb] at hsv
          exact g.2 b len d es hsv hrow hlen hb
         ·simp at hs
        ·simp at hs
       ·simp at hs
      ·simp at hl
     ·rename_i e s' x' h1 h2 h3 h4
      split at hl
      ·rename_i ag z i h5 h6
       simp only[Option.ite_none_right_eq_some,Option.some.injEq] at hl
       obtain⟨hby,rfl⟩:=hl
       simp only[cC] at hs
       split at hs
       ·rename_i q he
        have hxv:=fi hF h4
        rw[he,VR] at hxv
        have hsv:=fi hF h3
        have g:=I0 (P:=P) (id:=id) (s:=s) (jt h5).2 hop h1 h2 h6 (jt h5).1 hby rfl h hH hxv
        split at hs
        ·rename_i hsn
         simp only[Option.ite_none_right_eq_some,Option.some.injEq,Prod.mk.injEq] at hs
         obtain⟨hb,rfl,rfl⟩:=hs
         rw[dU,←hH]
         rw[hsn,VR] at hsv
         exact g.1 hid _ hsv hb
        ·rename_i b len hsb
         split at hs
         ·rename_i e' sz' d es hrow
          simp only[Option.ite_none_right_eq_some,Option.some.injEq,Prod.mk.injEq] at hs
          obtain⟨⟨hlen,rfl,rfl,hb⟩,rfl,rfl⟩:=hs
          rw[dU,←hH]
          rw[hsb] at hsv
          exact g.2 b len d es hsv hrow hlen hb
         ·simp at hs
        ·simp at hs
       ·simp at hs
      ·simp at hl
     ·simp at hl
    ·simp at hl
theorem vT (hl:l4 P o=some lop) (hs:cC id fr H lop=some (r,u)) (h:dZ w0 c) (hH:c.H=bu H) (hF:FR c fr a.tmps) (hid:¬c.U id):eE P o a w0 c id r (bu (dC H u)):=by
 rcases ql hl with hl|rfl
 ·exact EB hl hs h hH hF hid
 ·cases hs
end
end Go.cZ
/- What is forgotten at a loop's head and at a function's end. -/
namespace Go.cZ
open Go.RowKit
mutual
/-- Every name of own memory in it is below n. -/
def cI (n:Nat):AV→Prop
 | .sc _=>True
 | .any=>True
 | .im _ _ es=>cX n es
 | .ip _ _ es _ _=>cX n es
 | .sl b _=>b<n
 | .pt b _ _ _=>b<n
 | .zc=>True
 | .agg cs=>cX n cs
 | .dK cs=>cX n cs
 | .fn _ p q=>cX n p∧cX n q
 | .l9 _ x=>cI n x
 | .mp b=>b<n
 | .ab=>True
 | .sv b _ _ _=>b<n
def cX (n:Nat):List AV→Prop
 |[]=>True
 |a::as=>cI n a∧cX n as
end
theorem xu {n:Nat} {as:List AV}:cX n as↔∀a∈as,cI n a:=by
 induction as with
 |nil=>simp[cX]
 |cons a as ih=>simp[cX,ih]
theorem cB {α:Type} {n:Nat} (f:α→AV) (l:List α):cX n (l.map f)↔∀x∈l,cI n (f x):=by
 rw[xu];simp
structure Cx.YP (n:Nat) (c c':Cx):Prop where
 U:∀b,b<n→c.U b→c'.U b
 blk:∀b,¬c.M b→b<c.w.heap.size→c'.w.heap[b]?=c.w.heap[b]?∧¬c'.M b
 row:∀b,b<n→c.U b→∀e sz d es,c'.H b=some (.row e sz d es)→∃e0 d0 es0,c.H b=some (.row e0 sz d0 es0)∧((es0.length=es.length∧c'.ρ b=c.ρ b)∨es0.length<es.length)
mutual
theorem VR.gD {n:Nat} {c c':Cx} (h:c.YP n c'):∀{a:AV} {v:Value},cI n a→VR c a v→VR c' a v
 | .sc u,v,_,hv=>by rw[VR] at hv ⊢;exact hv
 | .any,_,_,_=>by rw[VR];trivial
 | .im sz d es,v,hf,hv=>by
  rw[VR] at hv ⊢
  rw[cI] at hf
  obtain⟨a,cap,rfl,hc,hr⟩:=hv
  refine⟨a,cap,rfl,hc, ?_⟩
  rcases hr with h0|⟨blk,o,rfl,hz,hm,hr⟩
  ·exact .inl h0
  ·by_cases h0:es=[]
   ·exact .inl h0
   ·obtain⟨h1,h2⟩:=h.blk blk hm (rD hz h0 hr)
    exact .inr ⟨blk,o,rfl,hz,h2,da.gD h h1 hf hr⟩
 | .ip sz d es i off,v,hf,hv=>by
  rw[VR] at hv ⊢
  rw[cI] at hf
  obtain⟨hi,ho,blk,o,rfl,hm,hr⟩:=hv
  obtain⟨h1,h2⟩:=h.blk blk hm (rD (by omega) (by intro e;rw[e] at hi;simp at hi) hr)
  exact⟨hi,ho,blk,o,rfl,h2,da.gD h h1 hf hr⟩
 | .sl b len,v,hf,hv=>by
  rw[VR] at hv ⊢
  rw[cI] at hf
  obtain⟨hb,a,cap,rfl,hr⟩:=hv
  refine⟨h.U _ hf hb,a,cap,rfl,fun e sz d es he=> ?_⟩
  obtain⟨e0,d0,es0,h0,hor⟩:=h.row b hf hb e sz d es he
  obtain⟨h1,h2⟩:=hr _ _ _ _ h0
  rcases hor with⟨hl,hρ⟩|hl
  ·rw[hl] at h1 h2
   rw[hρ]
   exact⟨h1,h2⟩
  ·exact⟨by omega,fun he=>by omega⟩
 | .pt b len i off,v,hf,hv=>by
  rw[VR] at hv ⊢
  rw[cI] at hf
  obtain⟨hb,hi,a,rfl,hr⟩:=hv
  refine⟨h.U _ hf hb,hi,a,rfl,fun e sz d es he=> ?_⟩
  obtain⟨e0,d0,es0,h0,hor⟩:=h.row b hf hb e sz d es he
  obtain⟨h1,h2⟩:=hr _ _ _ _ h0
  rcases hor with⟨hl,hρ⟩|hl
  ·rw[hl] at h1 h2
   rw[hρ]
   exact⟨h1,h2⟩
  ·exact⟨by omega,fun he=>by omega⟩
 | .zc,v,_,hv=>by rw[VR] at hv ⊢;exact hv
 | .agg cs,v,hf,hv=>by
  rw[VR] at hv ⊢
  rw[cI] at hf
  obtain⟨vs,rfl,hr⟩:=hv
  exact⟨vs,rfl,cg.gD h hf hr⟩
 | .dK cs,v,hf,hv=>by
  rw[VR] at hv ⊢
  rw[cI] at hf
  obtain⟨vs,rfl,hr⟩:=hv
  exact⟨vs,rfl,cg.gD h hf hr⟩
 | .fn f p q,v,hf,hv=>by
  rw[VR] at hv ⊢
  rw[cI] at hf
  obtain⟨ps,qs,rfl,h1,h2⟩:=hv
  exact⟨ps,qs,rfl,cg.gD h hf.1 h1,cg.gD h hf.2 h2⟩
 | .l9 t x,v,hf,hv=>by
  rw[VR] at hv ⊢
  rw[cI] at hf
  obtain⟨u,rfl,h1⟩:=hv
  exact⟨u,rfl,VR.gD h hf h1⟩
 | .mp b,v,hf,hv=>by
  rw[VR] at hv ⊢
  rw[cI] at hf
  obtain⟨hb,r,rfl,hr⟩:=hv
  refine⟨h.U _ hf hb,r,rfl,fun e sz d es he=> ?_⟩
  obtain⟨e0,d0,es0,h0,hor⟩:=h.row b hf hb e sz d es he
  obtain⟨h1,h2⟩:=hr _ _ _ _ h0
  rcases hor with⟨hl,hρ⟩|hl
  ·rw[hl] at h1 h2
   rw[hρ]
   exact⟨h1,h2⟩
  ·exact⟨by omega,fun he=>by omega⟩
 | .ab,v,_,hv=>by rw[VR] at hv ⊢;exact hv
 | .sv b len lo m,v,hf,hv=>by
  rw[VR] at hv ⊢
  rw[cI] at hf
  obtain⟨hb,hi,a,cap,rfl,hc,hr⟩:=hv
  refine⟨h.U _ hf hb,hi,a,cap,rfl,hc,fun e sz d es he=> ?_⟩
  obtain⟨e0,d0,es0,h0,hor⟩:=h.row b hf hb e sz d es he
  obtain⟨h1,h2⟩:=hr _ _ _ _ h0
  rcases hor with⟨hl,hρ⟩|hl
  ·rw[hl] at h1 h2
   rw[hρ]
   exact⟨h1,h2⟩
  ·exact⟨by omega,fun he=>by omega⟩
theorem da.gD {n:Nat} {c c':Cx} (h:c.YP n c') {sz:Nat} {blk:Nat} (hb:c'.w.heap[blk]?=c.w.heap[blk]?):∀{es:List AV} {o:Nat},cX n es→da c sz es blk o→da c' sz es blk o
 |[],_,_,_=>by rw[da];trivial
 |e::es,o,hf,hr=>by
  rw[da] at hr ⊢
  rw[cX] at hf
  obtain⟨⟨v,h1,h2⟩,h3⟩:=hr
  exact⟨⟨v,h1.cU hb,VR.gD h hf.1 h2⟩,da.gD h hb hf.2 h3⟩
theorem cg.gD {n:Nat} {c c':Cx} (h:c.YP n c'):∀{as:List AV} {vs:List Value},cX n as→cg c as vs→cg c' as vs
 |[],vs,_,hv=>by rw[cg] at hv ⊢;exact hv
 |a::as,vs,hf,hv=>by
  rw[cg] at hv ⊢
  rw[cX] at hf
  obtain⟨v,vs',rfl,h1,h2⟩:=hv
  exact⟨v,vs',rfl,VR.gD h hf.1 h1,cg.gD h hf.2 h2⟩
end
theorem q8.gD {n:Nat} {w0:World} {c c':Cx} {b:Nat} {e:TypeId} {sz:Nat} {es:List AV} (h:q8 w0 c b e sz es) (hle:c.YP n c') (hρ:c'.ρ b=c.ρ b) (hw:c'.w=c.w) (hf:cX n es):q8 w0 c' b e sz es:=by
 rcases h with⟨hz,h⟩|⟨hz,h⟩
 ·refine .inl ⟨hz, ?_⟩
  rw[hρ]
  rcases h with h|⟨blk,o,z,h0,h1,h2,h4,h5⟩
  ·exact .inl h
  ·exact .inr ⟨blk,o,z,h0,h1,by rw[hw];exact h2,h4,da.gD hle (by rw[hw]) hf h5⟩
 ·obtain⟨r,x,ms,clk,h0,h1,h2,h3,h4,h5⟩:=h
  subst h3
  simp only[cX,and_true] at hf
  exact .inr ⟨hz,r,x,ms,clk,hρ.trans h0,h1,by rw[hw];exact h2,rfl,VR.gD hle hf h4,h5⟩
def base (w:World) (M:Nat→Prop):Cx:=⟨fun _=>none,fun _=>none,fun _=>False,w,M⟩
theorem lp {w:World} {M:Nat→Prop} {b:Nat}:(base w M).M b↔M b:=by
 simp[Cx.M,base]
theorem VR.mT {c:Cx} {M:Nat→Prop} (hM:∀b,M b→c.M b) {a:AV} {v:Value} (hf:cI 0 a) (h:VR c a v):VR (base c.w M) a v:=
 VR.gD (n:=0) (c:=c) (c':=base c.w M) ⟨fun b hb=>by omega,fun b hm _=>⟨rfl,fun hh=>hm (hM b (lp.1 hh))⟩,fun b hb=>by omega⟩ hf h
theorem cg.mT {c:Cx} {M:Nat→Prop} (hM:∀b,M b→c.M b) {as:List AV} {vs:List Value} (hf:cX 0 as) (h:cg c as vs):cg (base c.w M) as vs:=
 cg.gD (n:=0) (c:=c) (c':=base c.w M) ⟨fun b hb=>by omega,fun b hm _=>⟨rfl,fun hh=>hm (hM b (lp.1 hh))⟩,fun b hb=>by omega⟩ hf h
theorem vv {c:Cx}:(base c.w c.M).le c:=
 ⟨fun _ h=>h.elim,Nat.le_refl _,fun _ hm _=>⟨rfl,fun h=>hm (lp.2 h)⟩,fun _ hb=>hb.elim⟩
mutual
/-- Own memory that is written no more. -/
def dV (H:Hp):Nat→AV→AV
 |_, .sc u=> .sc u
 |0,a=>a
 |k+1, .sl b len=>match bu H b with
  |some (.row _ sz _ es)=>if es.length=len then .im sz .any (es.map (dV H k)) else .sl b len
  |none=> .sl b len
 |k+1, .sv b len lo n=>match bu H b with
  |some (.row _ sz _ es)=>if es.length=len then .im sz .any (((es.drop lo).take n).map (dV H k)) else .sv b len lo n
  |none=> .sv b len lo n
 |k+1, .pt b len i off=>match bu H b with
  |some (.row _ sz _ es)=>if es.length=len then .ip sz .any (es.map (dV H k)) i off else .pt b len i off
  |none=> .pt b len i off
 |k+1, .agg cs=> .agg (cs.map (dV H k))
 |k+1, .dK cs=> .dK (cs.map (dV H k))
 |k+1, .fn f p q=> .fn f (p.map (dV H k)) (q.map (dV H k))
 |k+1, .l9 t x=> .l9 t (dV H k x)
 |_+1,a=>a
end
theorem cg.map {c c':Cx} (f:AV→AV):∀{as:List AV} {vs:List Value},(∀a∈as,∀v,VR c a v→VR c' (f a) v)→cg c as vs→cg c' (as.map f) vs
 |[],vs,_,h=>by rw[cg] at h;subst h;simp only[List.map_nil];rw[cg]
 |a::as,vs,hf,h=>by
  rw[cg] at h
  obtain⟨v,vs',rfl,h1,h2⟩:=h
  simp only[List.map_cons]
  rw[cg]
  exact⟨v,vs',rfl,hf a (by simp) v h1,cg.map f (fun a ha=>hf a (by simp[ha])) h2⟩
theorem kV {w0:World} {c:Cx} {H:Hp} (h:dZ w0 c) (hH:c.H=bu H):∀(k:Nat) {a:AV} {v:Value},cI 0 (dV H k a)→VR c a v→VR (base c.w c.M0) (dV H k a) v:=by
 intro k
 have hM:∀b,c.M0 b→c.M b:=fun b hb=> .inl hb
 induction k with
 |zero=>
  intro a v hf hv
  cases a<;>simp only[dV] at hf ⊢ <;>exact hv.mT hM hf
 |succ k ih=>
  intro a v hf hv
  cases a<;>try(simp only[dV] at hf ⊢;exact hv.mT hM hf)
  case sl b len=>
   simp only[dV] at hf ⊢
   cases hb:bu H b with
   |none=>rw[hb] at hf;simp only[cI] at hf;omega
   |some q=>
    obtain⟨e,sz,d,es⟩:=q
    rw[hb] at hf
    simp only at hf ⊢
    split at hf
    ·rename_i hlen
     rw[if_pos hlen]
     rw[cI,cB] at hf
     rw[VR] at hv
     obtain⟨_,ad,cap,rfl,hr⟩:=hv
     rw[←hH] at hb
     obtain⟨_,hr⟩:=hr _ _ _ _ hb
     obtain⟨_,hz,hrow⟩:=h.j4 b _ _ _ _ hb (tN (hr hlen))
     rw[VR]
     rcases hr hlen with⟨hρ,rfl,rfl⟩|⟨blk,o,z,hρ,rfl,hc1,_,_⟩
     ·rcases hrow with⟨_,he⟩|⟨_,_,_,hρ',_⟩
      ·subst he;simp at hlen;subst hlen
       exact⟨none,0,by simp,by simp, .inl (by simp)⟩
      ·rw[hρ] at hρ';cases hρ'
     ·rcases hrow with⟨hρ',_⟩|⟨blk1,o1,z1,hρ1,hlow,_,_,hrow⟩
      ·rw[hρ] at hρ';cases hρ'
      ·rw[hρ] at hρ1;cases hρ1
       refine⟨_,cap,by simp[hlen],by simpa[hlen] using hc1, .inr ⟨blk,o,rfl,hz,fun hm=> ?_,j9 fun i hi=> ?_⟩⟩
       ·have:=h.m0.lt blk (lp.1 hm);omega
       ·simp only[List.length_map] at hi
        obtain⟨u,h1,h2⟩:=dh hrow i hi
        refine⟨u,h1, ?_⟩
        have e1:(es.map (dV H k)).getD i .any=dV H k (es.getD i .any):=by
         simp[List.getD,hi]
        rw[e1]
        refine ih (hf _ ?_) h2
        simp[List.getD,hi]
    ·simp only[cI] at hf;omega
  case pt b len i off=>
   simp only[dV] at hf ⊢
   cases hb:bu H b with
   |none=>rw[hb] at hf;simp only[cI] at hf;omega
   |some q=>
    obtain⟨e,sz,d,es⟩:=q
    rw[hb] at hf
    simp only at hf ⊢
    split at hf
    ·rename_i hlen
     rw[if_pos hlen]
     rw[cI,cB] at hf
     rw[VR] at hv
     obtain⟨_,hi,ad,rfl,hr⟩:=hv
     rw[←hH] at hb
     obtain⟨_,hr⟩:=hr _ _ _ _ hb
     obtain⟨ho,blk,o,z,hρ,rfl⟩:=hr hlen
     obtain⟨_,hz,hrow⟩:=h.AM b _ _ _ _ hb (by omega)
     rw[VR]
     rcases hrow with⟨hρ',_⟩|⟨blk1,o1,z1,hρ1,hlow,_,_,hrow⟩
     ·rw[hρ] at hρ';cases hρ'
     ·rw[hρ] at hρ1;cases hρ1
      refine⟨by simp;omega,ho,blk,o,rfl,fun hm=> ?_,j9 fun i hi=> ?_⟩
      ·have:=h.m0.lt blk (lp.1 hm);omega
      ·simp only[List.length_map] at hi
       obtain⟨u,h1,h2⟩:=dh hrow i hi
       refine⟨u,h1, ?_⟩
       have e1:(es.map (dV H k)).getD i .any=dV H k (es.getD i .any):=by
        simp[List.getD,hi]
       rw[e1]
       refine ih (hf _ ?_) h2
       simp[List.getD,hi]
    ·simp only[cI] at hf;omega
  case sv b len lo n=>
   simp only[dV] at hf ⊢
   cases hb:bu H b with
   |none=>rw[hb] at hf;simp only[cI] at hf;omega
   |some q=>
    obtain⟨e,sz,d,es⟩:=q
    rw[hb] at hf
    simp only at hf ⊢
    split at hf
    ·rename_i hlen
     rw[if_pos hlen]
     rw[cI,cB] at hf
     rw[VR] at hv
     obtain⟨_,hln,ad,cap,rfl,hcap,hr⟩:=hv
     rw[←hH] at hb
     obtain⟨_,hr⟩:=hr _ _ _ _ hb
     obtain⟨_,hz,hrow⟩:=h.j4 b _ _ _ _ hb (KX (hr hlen).2)
     have hl2:(((es.drop lo).take n).map (dV H k)).length=n:=by simp;omega
     rw[VR]
     refine⟨ad,cap,by rw[hl2],by rw[hl2];exact hcap, ?_⟩
     rcases hr hlen with h0|⟨blk,o,z,hρ,rfl⟩
     ·subst h0;exact .inl (by simp)
     ·rcases hrow with⟨hρ',_⟩|⟨blk1,o1,z1,hρ1,hlow,_,_,hrow⟩
      ·rw[hρ] at hρ';cases hρ'
      ·rw[hρ] at hρ1;cases hρ1
       refine .inr ⟨blk,o+lo * sz,rfl,hz,fun hm=> ?_,j9 fun i hi=> ?_⟩
       ·have:=h.m0.lt blk (lp.1 hm);omega
       ·rw[hl2] at hi
        obtain⟨u,h1,h2⟩:=dh (iD hrow lo n (by omega)) i (by simp;omega)
        refine⟨u,h1, ?_⟩
        have hil:i<((es.drop lo).take n).length:=by simp;omega
        have e1:(((es.drop lo).take n).map (dV H k)).getD i .any=dV H k (((es.drop lo).take n).getD i .any):=by
         simp only[List.getD,List.getElem?_map,List.getElem?_eq_getElem hil,Option.map_some,Option.getD_some]
        rw[e1]
        refine ih (hf _ ?_) h2
        simp only[List.getD,List.getElem?_eq_getElem hil,Option.getD_some]
        exact List.getElem_mem hil
    ·simp only[cI] at hf;omega
  case agg cs=>
   simp only[dV] at hf ⊢
   rw[VR] at hv
   obtain⟨vs,rfl,hr⟩:=hv
   rw[cI,cB] at hf
   rw[VR]
   exact⟨vs,rfl,cg.map _ (fun a ha v hv=>ih (hf a ha) hv) hr⟩
  case dK cs=>
   simp only[dV] at hf ⊢
   rw[VR] at hv
   obtain⟨vs,rfl,hr⟩:=hv
   rw[cI,cB] at hf
   rw[VR]
   exact⟨vs,rfl,cg.map _ (fun a ha v hv=>ih (hf a ha) hv) hr⟩
  case fn f p q=>
   simp only[dV] at hf ⊢
   rw[VR] at hv
   obtain⟨ps,qs,rfl,h1,h2⟩:=hv
   rw[cI,cB,cB] at hf
   rw[VR]
   exact⟨ps,qs,rfl,cg.map _ (fun a ha v hv=>ih (hf.1 a ha) hv) h1,cg.map _ (fun a ha v hv=>ih (hf.2 a ha) hv) h2⟩
  case l9 t x=>
   simp only[dV] at hf ⊢
   rw[VR] at hv
   obtain⟨u,rfl,h1⟩:=hv
   rw[cI] at hf
   rw[VR]
   exact⟨u,rfl,ih hf h1⟩
end Go.cZ
end
