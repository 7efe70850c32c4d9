import Derived.Test.YtjopoheligmmoaaGreatDoorM2
import Derived.Laws.CopyRow
section
/- A text's bytes put behind a row's. -/
set_option linter.unusedSimpArgs false
set_option linter.unusedVariables false
namespace Go.cw
open Go.RowKit
section
variable {P:Program} {o:Oper} {a:Act} {w0:World} {c:Cx} {id:Nat}
theorem lJ (w:World) (sz:Nat) (s0:ByteArray):(Builtin.firstCells sz s0.size (.string s0)).run P w= .ok (s0.data.toList.map fun b=>Value.int .u8 (b.toNat:Int)).toArray w:=by
 have:s0.extract 0 s0.size=s0:=by simp
 simp only[Builtin.firstCells,this,Sem.run_pure]
 congr 1
 apply Array.ext'
 simp
theorem oz {t t2 ty e:TypeId} {i:TypeInfo} (ht:P.underlying t=some (.slice e)) (ht2:P.underlying t2=some .string) (hi:P.info? e=some i) (s0:ByteArray) (h0:s0.size=0) (w:World):
 (Builtin.append_ #[t,t2] ty #[.slice none 0 0, .string s0]).run P w= .ok (.slice none 0 0) w:=by
 have:=lJ (P:=P) w i.size s0
 rw[h0] at this
 simp[Builtin.append_,run_underlying ht,run_underlying ht2,sizeOf,typeInfo,hi,Builtin.lenOf,h0,this]
theorem yT {t t2 ty e:TypeId} {i:TypeInfo} (ht:P.underlying t=some (.slice e)) (ht2:P.underlying t2=some .string) (hi:P.info? e=some i) (w:World) (g off sLen sCap:Nat) (s0:ByteArray) (h0:s0.size=0) (hc:sLen<=sCap):
 (Builtin.append_ #[t,t2] ty #[.slice (some ⟨g,off,none⟩) sLen sCap, .string s0]).run P w= .ok (.slice (some ⟨g,off,none⟩) sLen sCap) w:=by
 have:=lJ (P:=P) w i.size s0
 rw[h0] at this
 have hd:s0.data.toList=[]:=List.eq_nil_of_length_eq_zero (by simpa using h0)
 rw[hd] at this
 simp[Builtin.append_,run_underlying ht,run_underlying ht2,sizeOf,typeInfo,hi,Builtin.lenOf,h0,hc,this,storeCells]
theorem BE {t t2 ty e:TypeId} {i:TypeInfo} (ht:P.underlying t=some (.slice e)) (ht2:P.underlying t2=some .string) (hi:P.info? e=some i) (w:World)
 (g off sLen sCap:Nat) (cur:Array Value) (hg:w.heap[g]?=some (.cells cur e (0,0))) (s0:ByteArray) {m:Nat} (hm:m=s0.size) (news:List Value)
 (hf:(Builtin.firstCells i.size m (.string s0)).run P w= .ok news.toArray w) (h1:∀u∈news,u.oneCell'=true)
 (hroom:sLen+m<=sCap) (hfit:off+sLen * i.size+news.length<=cur.size):
 (Builtin.append_ #[t,t2] ty #[.slice (some ⟨g,off,none⟩) sLen sCap, .string s0]).run P w=
  .ok (.slice (some ⟨g,off,none⟩) (sLen+m) sCap) (w.setRow g (cur.toList.take (off+sLen * i.size)++news++cur.toList.drop (off+sLen * i.size+news.length)).toArray):=by
 subst hm
 have hst:=run_storeCells_at (P:=P) g (off+sLen * i.size) e news 0 cur w hg (by simpa using hfit) h1
 simp only[Nat.add_zero] at hst
 simp[Builtin.append_,run_underlying ht,run_underlying ht2,sizeOf,typeInfo,hi,Builtin.lenOf,hroom,hf,Addr.add_lit,hst]
theorem qf (w:World) (t t2 ty e:TypeId) (i:TypeInfo) (z:Value) (ht:P.underlying t=some (.slice e)) (ht2:P.underlying t2=some .string) (hi:P.info? e=some i) (hz:i.zero=some z)
 (s0:ByteArray) {n:Nat} (hm:n=s0.size) (news:List Value) (hf:∀w,(Builtin.firstCells i.size n (.string s0)).run P w= .ok news.toArray w)
 (h0:0<n) (h63:(n:Int)<=9223372036854775807) (h48:n * i.bytes<=281474976710656):
 (Builtin.append_ #[t,t2] ty #[.slice none 0 0, .string s0]).run P w=
  .ok (.slice (some ⟨w.heap.size,0,none⟩) n (grownCap w n 0 e)) (w.drew.alloc (.cells (news.toArray++Builtin.zeroCells z.cells (grownCap w n 0 e - n)) e)):=by
 subst hm
 have hn:s0.size≠0:=by omega
 have h63':¬(9223372036854775807<(s0.size:Int)):=by omega
 have h48':¬(281474976710656<Builtin.nextslicecap s0.size 0 * i.bytes):=by rw[nextslicecap_zero h0];omega
 simp[Builtin.append_,run_underlying ht,run_underlying ht2,sizeOf,typeInfo,zeroValue,hi,hz,Builtin.lenOf,hn,h63',h48',Question.forced,run_firstCells_none,hf,newRow,grownCap]
theorem vw (w:World) (t t2 ty e:TypeId) (i:TypeInfo) (z:Value) (ht:P.underlying t=some (.slice e)) (ht2:P.underlying t2=some .string) (hi:P.info? e=some i) (hz:i.zero=some z)
 (b:Addr) (sLen sCap:Nat) (olds:List Value) (hlo:olds.length=sLen * i.size) (holds:∀j v,olds[j]?=some v->w.cell? (b.add j)=some v)
 (s0:ByteArray) {n:Nat} (hm:n=s0.size) (news:List Value) (hf:∀w,(Builtin.firstCells i.size n (.string s0)).run P w= .ok news.toArray w)
 (hg:sCap<sLen+n) (h63:((sLen+n:Nat):Int)<=9223372036854775807) (hfit:Builtin.nextslicecap (sLen+n) sCap * i.bytes<=281474976710656):
 (Builtin.append_ #[t,t2] ty #[.slice (some b) sLen sCap, .string s0]).run P w=
  .ok (.slice (some ⟨w.heap.size,0,none⟩) (sLen+n) (grownCap w (sLen+n) sCap e))
   (w.drew.alloc (.cells (olds.toArray++news.toArray++Builtin.zeroCells z.cells (grownCap w (sLen+n) sCap e - (sLen+n))) e)):=by
 subst hm
 have hn:¬(sLen+s0.size<=sCap):=by omega
 have h63':¬(9223372036854775807<((sLen:Int)+(s0.size:Int))):=by omega
 have h48':¬(281474976710656<Builtin.nextslicecap (sLen+s0.size) sCap * i.bytes):=by omega
 have hfo:=run_firstCells_some (P:=P) w.drew i.size sLen b sLen sCap olds hlo (by simpa using holds)
 simp[Builtin.append_,run_underlying ht,run_underlying ht2,sizeOf,typeInfo,zeroValue,hi,hz,Builtin.lenOf,hn,h63',h48',Question.forced,hf,hfo,newRow,grownCap]
 congr 2
 apply Array.ext'
 simp
theorem uT {s x:Operand} {t t2:TypeId} (ho:o.op= .call { callee:= .builtin .append,args:=#[s,x],argTypes:=#[t,t2] })
 {v:Value} {W:World} (hr:(Builtin.append_ #[t,t2] o.type #[a.eval s,a.eval x]).run P c.w= .ok v W):(execOp a.eval o).run P c.w= .ok (.value v) W:=by
 unfold execOp
 simp only[ho,resolve,invoke,builtin,Sem.run_bind,Sem.run_pure,Result.andThen_ok,List.map_toArray,List.map_cons,List.map_nil,hr]
theorem IC {H:Hp} {s x:Operand} {t t2 e:TypeId} {sz:Nat} (hxt:e∈XT->sz=1) {i:TypeInfo} {ag:Bool} {z:List Value} (ho:o.op= .call { callee:= .builtin .append,args:=#[s,x],argTypes:=#[t,t2] })
 (ht:P.underlying t=some (.slice e)) (ht2:P.underlying t2=some .string) (hi:P.info? e=some i) (hz:zT P e=some (sz,ag,z)) (hby:0<i.bytes) (hbl:i.bytes<=1048576)
 (hsz1:sz=1)
 (h:dy w0 c) (hH:c.H=bt H) {s0:ByteArray} (hxv:a.eval x= .string s0):
 (¬c.U id->∀d,a.eval s= .slice none 0 0->(cW s0).length * i.bytes<=iA->eU P o a w0 c id (.sl id (cW s0).length) (fU c.H id (some (.row e sz d (cW s0)))))/\
 (∀b len d es,VR c (.sl b len) (a.eval s)->bt H b=some (.row e sz d es)->es.length=len->(len+(cW s0).length) * i.bytes<=iA->eU P o a w0 c id (.sl b (len+(cW s0).length)) (fU c.H b (some (.row e sz d (es++cW s0))))):=by
 obtain⟨i',v,hi',hz0,h1,hg,hk',hc,hlz,hpos,hone,hv,hfit⟩:=jT hz
 rw[hi] at hi'
 cases hi'
 have hvs:v.cells.size=sz:=by simp[hc,hlz]
 obtain⟨news,hnd⟩:∃news:List Value,news=s0.data.toList.map fun b=>Value.int .u8 (b.toNat:Int):=⟨_,rfl⟩
 have hxl:(cW s0).length=s0.size:=by simp[cW]
 have n1:news.length=(cW s0).length * sz:=by rw[hnd,hsz1];simp[cW]
 have n2:∀w:World,(Builtin.firstCells sz (cW s0).length (.string s0)).run P w= .ok news.toArray w:=fun w=>by rw[hxl,hnd];exact lJ w sz s0
 have n3:∀u∈news,u.oneCell'=true:=fun u hu=>by
  rw[hnd] at hu
  obtain⟨b,_,rfl⟩:=List.mem_map.1 hu
  rfl
 have n5:∀i,i<(cW s0).length->∃v:Value,v.cells.size=sz/\(∀j,j<sz->news[i * sz+j]?=v.cells[j]?)/\(∀(j:Nat) (x:Value),v.cells[j]?=some x->x.oneCell'=true)/\VR c ((cW s0).getD i .any) v:=fun i hi=>by
  rw[hxl] at hi
  have hi2:i<s0.data.toList.length:=by simpa using hi
  refine⟨.int .u8 ((s0.data.toList[i]).toNat:Int),by rw[hsz1];rfl,fun j hj=> ?_,fun j x hx=> ?_, ?_⟩
  ·have:j=0:=by omega
   subst this
   rw[hnd,hsz1]
   simp[Value.cells,hi]
  ·rcases j with _|j
   ·simp[Value.cells] at hx;subst hx;rfl
   ·simp[Value.cells] at hx
  ·have:(cW s0).getD i .any= .sc (.int .u8 ((s0.data.toList[i]).toNat:Int)):=by
    simp[cW,List.getD,hi]
   rw[this,VR]
 have hcall:∀{r:Value} {W:World},(Builtin.append_ #[t,t2] o.type #[a.eval s, .string s0]).run P c.w= .ok r W->(execOp a.eval o).run P c.w= .ok (.value r) W:=
  fun hr=>uT ho (by rw[hxv];exact hr)
 have hlenle:∀n:Nat,n * i.bytes<=iA->n<=175921860444160:=fun n hn=>Nat.le_trans (Nat.le_mul_of_pos_right n hby) hn
 constructor
 ·intro hid d hs hb
  have hle:=hlenle _ hb
  by_cases h0:cW s0=[]
  ·have h0s:s0.size=0:=by rw[<-hxl,h0];rfl
   rw[h0]
   intro K Q hK
   unfold Oper.wp
   rw[hcall (r:= .slice none 0 0) (W:=c.w) (by rw[hs];exact oz ht ht2 hi s0 h0s c.w),Oper.upon_value]
   obtain⟨p1,p2⟩:=h.JM (b:=id) (e:=e) (sz:=sz) d hpos hid
   refine hK _ _ _ p1 p2 ?_
   rw[VR]
   refine⟨.inr rfl,none,0,rfl,fun e' sz' d' es he=> ?_⟩
   simp only[j6,dV,Option.some.injEq,fH.row.injEq] at he
   obtain⟨rfl,rfl,rfl,rfl⟩:=he
   exact⟨Nat.le_refl _,fun _=> .inl ⟨by simp[j6],rfl,rfl⟩⟩
  ·have hpos':0<(cW s0).length:=List.length_pos_iff.2 h0
   have hr:=qf (P:=P) c.w t t2 o.type e i v ht ht2 hi hz0 s0 hxl news (by rw[h1];exact n2) hpos' (by omega) (by unfold iA at hb;omega)
   have hge:=grownCap_ge c.w (cW s0).length 0 e
   have harr:(news.toArray++Builtin.zeroCells v.cells (grownCap c.w (cW s0).length 0 e - (cW s0).length)).size=grownCap c.w (cW s0).length 0 e * sz:=by
    simp only[Array.size_append,List.size_toArray,size_zeroCells,hvs,n1,<-Nat.add_mul]
    congr 1
    omega
   refine jZ d (es:=cW s0) (v:= .slice (some ⟨c.w.heap.size,0,none⟩) (cW s0).length (grownCap c.w (cW s0).length 0 e)) h hid hpos (fun he=> .inr (hxt he)) (W:=c.w.drew.alloc (.cells (news.toArray++Builtin.zeroCells v.cells (grownCap c.w (cW s0).length 0 e - (cW s0).length)) e)) rfl rfl rfl rfl (hcall (by rw[hs];exact hr)) ?_ ?_ ?_
   ·rw[harr];exact Nat.mul_le_mul_right _ hge
   ·intro m hm
    obtain⟨u,u1,u2,u3,u4⟩:=n5 m hm
    exact⟨u,u1,fun j hj=>(zH n1 m j hm hj _).trans (u2 j hj),u3,u4⟩
   ·intro c' hU hρ hHid
    rw[VR]
    refine⟨hU,_,_,rfl,fun e' sz' d' es he=> ?_⟩
    rw[hHid] at he
    simp only[Option.some.injEq,fH.row.injEq] at he
    obtain⟨rfl,rfl,rfl,rfl⟩:=he
    exact⟨Nat.le_refl _,fun _=> .inr ⟨_,_,_,hρ,rfl,hge,by rw[harr];exact Nat.le_refl _,grownCap_le_maxLen _ _ _ _ (by unfold maxLen;omega),hpos⟩⟩
 ·intro b len d es hsv hHb hl hb
  have hle:=hlenle _ hb
  rw[<-hH] at hHb
  obtain⟨hU,_,hrw⟩:=h.BC b _ _ _ _ hHb hpos
  rw[VR] at hsv
  obtain⟨_,ads,cap,hsv,hliv⟩:=hsv
  obtain⟨_,hliv⟩:=hliv _ _ _ _ hHb
  have hliv:=hliv hl
  by_cases h0:cW s0=[]
  ·have h0s:s0.size=0:=by rw[<-hxl,h0];rfl
   rw[h0]
   have hsame:fU c.H b (some (.row e sz d (es++[])))=c.H:=by
    funext y
    by_cases hy:y=b
    ·subst hy;simp[hHb]
    ·exact eV _ _ hy
   rw[hsame]
   have hvr:VR c (.sl b (len+([]:List AV).length)) (a.eval s):=by
    rw[VR]
    refine⟨hU,ads,cap,by simpa using hsv,fun e' sz' d' es' he'=> ?_⟩
    rw[hHb] at he'
    simp only[Option.some.injEq,fH.row.injEq] at he'
    obtain⟨rfl,rfl,rfl,rfl⟩:=he'
    exact⟨by simp[hl],fun _=>by simpa using hliv⟩
   rcases hliv with⟨hρ0,rfl,rfl⟩|⟨blk,off,z',hρ,rfl,hcap,hcz,hcm,_⟩
   ·rcases hrw with⟨_,hes⟩|⟨_,_,_,hρ',_⟩
    ·subst hes
     simp only[List.length_nil] at hl
     subst hl
     refine cR h (hcall (r:= .slice none 0 0) (by rw[hsv];exact oz ht ht2 hi s0 h0s c.w)) ?_
     rw[hsv] at hvr
     exact hvr
    ·rw[hρ0] at hρ';cases hρ'
   ·rcases hrw with⟨hρ',_⟩|⟨blk1,off1,z1,hρ1,hlow,⟨arr,harr,hsz'⟩,hlen,hrow'⟩
    ·rw[hρ] at hρ';cases hρ'
    rw[hρ] at hρ1;cases hρ1
    have hr:=yT (P:=P) (ty:=o.type) ht ht2 hi c.w blk off len cap s0 h0s (by omega)
    refine cR h (hcall (r:= .slice (some ⟨blk,off,none⟩) len cap) (by rw[hsv];exact hr)) ?_
    rw[hsv] at hvr
    exact hvr
  ·have hpos':0<(cW s0).length:=List.length_pos_iff.2 h0
   -- the row laid anew
   have anew:∀(olds:List Value) (iB:Nat),iB<len+(cW s0).length->olds.length=len * sz->(∀m,m<es.length->∃u:Value,u.cells.size=sz/\(∀j,j<sz->olds[m * sz+j]?=u.cells[j]?)/\(∀(j:Nat) (x:Value),u.cells[j]?=some x->x.oneCell'=true)/\VR c (es.getD m .any) u)->
    (Builtin.append_ #[t,t2] o.type #[a.eval s, .string s0]).run P c.w= .ok (.slice (some ⟨c.w.heap.size,0,none⟩) (len+(cW s0).length) (grownCap c.w (len+(cW s0).length) iB e)) (c.w.drew.alloc (.cells (olds.toArray++news.toArray++Builtin.zeroCells v.cells (grownCap c.w (len+(cW s0).length) iB e - (len+(cW s0).length))) e))->
    eU P o a w0 c id (.sl b (len+(cW s0).length)) (fU c.H b (some (.row e sz d (es++cW s0)))):=by
    intro olds iB hold hol hoc hr K Q hK
    unfold Oper.wp
    rw[hcall hr,Oper.upon_value]
    have hge:=grownCap_ge c.w (len+(cW s0).length) iB e
    have harr:(olds.toArray++news.toArray++Builtin.zeroCells v.cells (grownCap c.w (len+(cW s0).length) iB e - (len+(cW s0).length))).size=grownCap c.w (len+(cW s0).length) iB e * sz:=by
     simp only[Array.size_append,List.size_toArray,size_zeroCells,hvs,n1,hol,<-Nat.add_mul]
     congr 1
     omega
    have hblk:(c.w.drew.alloc (.cells (olds.toArray++news.toArray++Builtin.zeroCells v.cells (grownCap c.w (len+(cW s0).length) iB e - (len+(cW s0).length))) e)).heap[c.w.heap.size]?=some (.cells (olds.toArray++news.toArray++Builtin.zeroCells v.cells (grownCap c.w (len+(cW s0).length) iB e - (len+(cW s0).length))) e):=heap_alloc_new c.w.drew (.cells (olds.toArray++news.toArray++Builtin.zeroCells v.cells (grownCap c.w (len+(cW s0).length) iB e - (len+(cW s0).length))) e)
    obtain⟨p1,p2⟩:=kg (id:=id) (h.put (b:=b) (e:=e) (sz:=sz) d (es:=es++cW s0) (w':=c.w.drew.alloc (.cells (olds.toArray++news.toArray++Builtin.zeroCells v.cells (grownCap c.w (len+(cW s0).length) iB e - (len+(cW s0).length))) e)) (blk:=c.w.heap.size) (o:=0) (z:=grownCap c.w (len+(cW s0).length) iB e * sz) hpos
     (.inr ⟨_,_,_,hHb, .inr (by simp;omega)⟩) (.inl rfl) rfl rfl rfl (by simp) (fun m hm _=>heap_alloc_old c.w.drew _ m hm) hblk ⟨by rw[harr];simp,fun he=>⟨rfl, .inr (hxt he)⟩⟩ (by rw[List.length_append,hl];exact Nat.mul_le_mul_right _ hge) (fun m hm=>by
      simp only[List.length_append] at hm
      by_cases hme:m<es.length
      ·obtain⟨u,u1,u2,u3,u4⟩:=hoc m hme
       have hb2:m * sz+sz<=len * sz:=by rw[<-Nat.succ_mul,<-hl];exact Nat.mul_le_mul_right _ hme
       refine⟨u,⟨u1,fun j hj=> ?_,u3⟩,by simpa[List.getD,List.getElem?_append,hme] using u4⟩
       rw[cell_of_row _ _ _ _ e (0,0) hblk,<-u2 j hj]
       simp only[Nat.zero_add]
       rw[Array.append_assoc,Array.getElem?_append,if_pos (by simp[hol];omega)]
       simp
      ·obtain⟨u,u1,u2,u3,u4⟩:=n5 (m - es.length) (by omega)
       have hb2:(m - es.length) * sz+sz<=(cW s0).length * sz:=by rw[<-Nat.succ_mul];exact Nat.mul_le_mul_right _ (by omega)
       have hb3:m * sz=len * sz+(m - es.length) * sz:=by rw[<-Nat.add_mul,<-hl];congr 1;omega
       refine⟨u,⟨u1,fun j hj=> ?_,u3⟩,by simpa[List.getD,List.getElem?_append,hme] using u4⟩
       rw[cell_of_row _ _ _ _ e (0,0) hblk,<-u2 j hj]
       simp only[Nat.zero_add]
       rw[Array.append_assoc,Array.getElem?_append,if_neg (by simp[hol];omega),Array.getElem?_append,if_pos (by simp[hol,n1];omega)]
       simp[hol]
       congr 1
       omega)) hU
    refine hK _ _ _ p1 p2 ?_
    rw[VR]
    refine⟨.inl hU,_,_,rfl,fun e' sz' d' es' he'=> ?_⟩
    simp only[j6,dV,Option.some.injEq,fH.row.injEq] at he'
    obtain⟨rfl,rfl,rfl,rfl⟩:=he'
    exact⟨by simp[hl],fun _=> .inr ⟨_,_,_,by simp[j6],rfl,hge,Nat.le_refl _,grownCap_le_maxLen _ _ _ _ (by unfold maxLen;omega),hpos⟩⟩
   rcases hliv with⟨hρ0,rfl,rfl⟩|⟨blk,off,z',hρ,rfl,hcap,hcz,hcm,_⟩
   ·rcases hrw with⟨_,hes⟩|⟨_,_,_,hρ',_⟩
    ·subst hes
     simp only[List.length_nil] at hl
     subst hl
     simp only[Nat.zero_add] at anew hb hle ⊢
     have hr:=qf (P:=P) c.w t t2 o.type e i v ht ht2 hi hz0 s0 hxl news (by rw[h1];exact n2) hpos' (by omega) (by unfold iA at hb;omega)
     exact anew [] 0 hpos' (by simp) (by simp) (by rw[hsv];simpa using hr)
    ·rw[hρ0] at hρ';cases hρ'
   ·rcases hrw with⟨hρ',_⟩|⟨blk1,off1,z1,hρ1,hlow,⟨arr,harr,hsz'⟩,hlen,hrow'⟩
    ·rw[hρ] at hρ';cases hρ'
    rw[hρ] at hρ1;cases hρ1
    by_cases hroom:len+(cW s0).length<=cap
    ·have hfit2:len * sz+news.length<=z':=by
      rw[n1,<-Nat.add_mul];exact Nat.le_trans (Nat.mul_le_mul_right _ hroom) hcz
     have hr:=BE (P:=P) (ty:=o.type) ht ht2 hi c.w blk off len cap arr harr s0 hxl news (by simpa[h1] using n2 c.w) n3 hroom (by rw[h1];omega)
     rw[h1] at hr
     intro K Q hK
     unfold Oper.wp
     rw[hcall (by rw[hsv];exact hr),Oper.upon_value]
     have hblk:=setRow_heap c.w blk arr (arr.toList.take (off+len * sz)++news++arr.toList.drop (off+len * sz+news.length)).toArray e (0,0) harr
     have hcellm:∀m,(arr.toList.take (off+len * sz)++news++arr.toList.drop (off+len * sz+news.length)).toArray[m]?=
      if off+len * sz<=m/\m<off+len * sz+news.length then news[m - (off+len * sz)]? else arr[m]?:=by
      intro m
      simp only[List.getElem?_toArray,List.append_assoc,List.getElem?_append,List.length_take,Array.length_toList]
      have hmin:min (off+len * sz) arr.size=off+len * sz:=by omega
      rw[hmin]
      by_cases q1:m<off+len * sz
      ·rw[if_pos q1,if_neg (by omega)];simp[q1]
      ·rw[if_neg q1]
       by_cases q2:m<off+len * sz+news.length
       ·rw[if_pos (by omega),if_pos ⟨by omega,q2⟩]
       ·rw[if_neg (by omega),if_neg (by omega),List.getElem?_drop]
        simp
        congr 1
        omega
     obtain⟨p1,p2⟩:=kg (id:=id) (h.put (b:=b) (e:=e) (sz:=sz) d (es:=es++cW s0) (w':=c.w.setRow blk (arr.toList.take (off+len * sz)++news++arr.toList.drop (off+len * sz+news.length)).toArray) (blk:=blk) (o:=off) (z:=z') hpos
      (.inr ⟨_,_,_,hHb, .inr (by simp;omega)⟩) (.inr ⟨_,_,_,hHb,hρ⟩) rfl rfl rfl (by simp) (fun m _ hne=>setRow_other c.w blk m _ hne) hblk ⟨by simp;omega,fun he=>⟨(hsz'.2 he).1, .inr (hxt he)⟩⟩ (by rw[List.length_append,Nat.add_mul,hl,<-n1];exact hfit2) (fun m hm=>by
       simp only[List.length_append] at hm
       by_cases hme:m<es.length
       ·obtain⟨u,⟨u1,u2,u3⟩,u4⟩:=eC hrow' m hme
        have hb2:m * sz+sz<=len * sz:=by rw[<-Nat.succ_mul,<-hl];exact Nat.mul_le_mul_right _ hme
        refine⟨u,⟨u1,fun j hj=> ?_,u3⟩,by simpa[List.getD,List.getElem?_append,hme] using u4⟩
        rw[cell_of_row _ _ _ _ e (0,0) hblk,hcellm,if_neg (by omega),<-u2 j hj,cell_of_row c.w blk _ arr e (0,0) harr]
       ·obtain⟨u,u1,u2,u3,u4⟩:=n5 (m - es.length) (by omega)
        have hb2:(m - es.length) * sz+sz<=(cW s0).length * sz:=by rw[<-Nat.succ_mul];exact Nat.mul_le_mul_right _ (by omega)
        have hb3:m * sz=len * sz+(m - es.length) * sz:=by rw[<-Nat.add_mul,<-hl];congr 1;omega
        refine⟨u,⟨u1,fun j hj=> ?_,u3⟩,by simpa[List.getD,List.getElem?_append,hme] using u4⟩
        rw[cell_of_row _ _ _ _ e (0,0) hblk,hcellm,if_pos (by omega),<-u2 j hj]
        congr 1
        omega)) hU
     refine hK _ _ _ p1 p2 ?_
     rw[VR]
     refine⟨.inl hU,_,_,rfl,fun e' sz'' d' es' he'=> ?_⟩
     simp only[j6,dV,Option.some.injEq,fH.row.injEq] at he'
     obtain⟨rfl,rfl,rfl,rfl⟩:=he'
     exact⟨by simp[hl],fun _=> .inr ⟨_,_,_,by simp[j6],rfl,hroom,hcz,hcm,hpos⟩⟩
    ·obtain⟨olds,q1,q2,q3,q4⟩:=lR hrow'
     have holds:∀j u,olds[j]?=some u->c.w.cell? ((⟨blk,off,none⟩:Addr).add j)=some u:=by
      intro j u hu
      rw[Addr.add_lit,q2 j (List.getElem?_eq_some_iff.1 hu).1,hu]
     have hr:=vw (P:=P) c.w t t2 o.type e i v ht ht2 hi hz0 ⟨blk,off,none⟩ len cap olds (by rw[h1,<-hl];exact q1) holds s0 hxl news (by rw[h1];exact n2) (by omega) (by omega) (w5 (by omega) hb hbl)
     exact anew olds cap (by omega) (by rw[<-hl];exact q1) (fun m hm=>by
      obtain⟨u,u1,u2,u3,u4⟩:=q4 m hm
      exact⟨u,u1,u2,u3,u4⟩) (by rw[hsv];exact hr)
end
end Go.cw
end
