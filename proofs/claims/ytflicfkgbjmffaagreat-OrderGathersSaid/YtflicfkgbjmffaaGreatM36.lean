import Derived.Test.YtflicfkgbjmffaaGreatM35
section
/- Gather of the program. -/
namespace Go.Proofs.YtflicfkgbjmffaaGreat
open Go Go.Abs Go.Proofs V
set_option linter.unusedSimpArgs false
set_option linter.unusedVariables false
abbrev noX:AV:=.agg [.sc (.slice none 0 0),.sc (.slice none 0 0),.sc (.slice none 0 0),.sc (.slice none 0 0)]
abbrev exAv (m n:Nat) (L:GLay):AV:=.agg [.sl L.fi m,.sl L.ev n,.sl L.fr n,.sl L.af m]
def Gathered (o:V.Obj) (l:List V.StepV) (H:Hp) (nx:Nat):AV→Hp→Nat→Prop:=fun r H' n => nx ≤ n∧(∀ b,b < nx→getH H' b = getH H b) ∧
 if gathE o l = 0 then ∃ L,r = .tup [exAv o.mem.length (gathG o l).ev.length L,i64 0]∧GRow o.mem.length o.cores.length o.mem (gathG o l) L false H' n∧∀ y ∈ L.ids,nx ≤ y else r = .tup [noX,i64 (gathE o l)]
theorem gborn {o:V.Obj} {s:V.Mach} {H:Hp} {n gg fi af w la lo:Nat} {L0:Lay} {d1 d3 d4:AV} (hM:MAt o s L0 H n) (r1:getH H gg = some (.row 45 8 d1 [.agg [.sl fi o.mem.length,.sc (.slice none 0 0),.sc (.slice none 0 0),.sl af o.mem.length,.pt L0.m 1 0 0,.sl w o.cores.length,.sl la o.mem.length,bl false]]))
  (r2:∃ d,getH H fi = some (.row 2 1 d (o.mem.map i64))) (r3:getH H af = some (.row 28 1 d3 (List.replicate o.mem.length (.sc (.slice none 0 0))))) (r4:getH H w = some (.row 28 1 d4 (List.replicate o.cores.length (.sc (.slice none 0 0))))) (r5:∃ d,getH H la = some (.row 3 1 d ((List.replicate o.mem.length (-1)).map i64)))
  (hlt:∀ y ∈ [gg,fi,af,w,la],y < n∧lo ≤ y∧y ∉ L0.ids) (hnd:[gg,fi,af,w,la].Nodup) :
  ∃ H2 n2 L,Wk .any H n .any H2 n2∧n ≤ n2∧GRow o.mem.length o.cores.length o.mem (g0 o) L false H2 n2∧L.g = gg∧L.M = L0∧MAt o s L0 H2 n2∧(∀ y ∈ L.own,lo ≤ y)∧∀ b,b < n→b ≠ gg→b ≠ af→b ≠ w→getH H2 b = getH H b:=by
 obtain ⟨g1,g2,g3⟩:=hlt gg (by simp)
 obtain ⟨f1,f2,f3⟩:=hlt fi (by simp)
 obtain ⟨a1,a2,a3⟩:=hlt af (by simp)
 obtain ⟨w1,w2,w3⟩:=hlt w (by simp)
 obtain ⟨l1,l2,l3⟩:=hlt la (by simp)
 simp only [List.nodup_cons,List.mem_cons,List.not_mem_nil,or_false,not_or,not_false_eq_true,List.nodup_nil,and_true] at hnd
 obtain ⟨⟨x1,x2,x3,x4⟩,⟨x5,x6,x7⟩,⟨x8,x9⟩,x10⟩:=hnd
 obtain ⟨d2,r2⟩:=r2
 obtain ⟨d5,r5⟩:=r5
 have k1:=Wk.born (te:=28) (e:=3) (sz:=1) a1 (by omega) r3
 have q1:=QAt.born (te:=28) (e:=3) (sz:=1) (n:=o.mem.length) (H:=H) a1
 generalize hA:bornH 28 3 1 af o.mem.length n H = A at k1 q1
 have fA:∀ y,y < n→y ≠ af→getH A y = getH H y:=fun y h1 h2 => by rw [← hA];exact bornH_at h1 h2
 have k2:=Wk.born (te:=28) (e:=3) (sz:=1) (b:=w) (n:=o.cores.length) (nx:=n + o.mem.length) (by omega) (by omega) ((fA w w1 (Ne.symm x8)).trans r4)
 have q2:=QAt.born (te:=28) (e:=3) (sz:=1) (b:=w) (n:=o.cores.length) (nx:=n + o.mem.length) (H:=A) (by omega)
 generalize hB:bornH 28 3 1 w o.cores.length (n + o.mem.length) A = B at k2 q2
 have fB:∀ y,y < n + o.mem.length→y ≠ w→getH B y = getH A y:=fun y h1 h2 => by rw [← hB];exact bornH_at h1 h2
 have rB:getH B gg = some (.row 45 8 d1 [.agg [.sl fi o.mem.length,.sc (.slice none 0 0),.sc (.slice none 0 0),.sl af o.mem.length,.pt L0.m 1 0 0,.sl w o.cores.length,.sl la o.mem.length,bl false]]):=(fB gg (by omega) x3).trans ((fA gg g1 x2).trans r1)
 have k3:=Wk.nilCell (b:=gg) (e:=74) (sz:=5) (j:=1) (nx:=n + o.mem.length + o.cores.length) (by omega) (by omega) rB (by simp) rfl
 have k4:=Wk.nilCell (b:=gg) (e:=3) (sz:=1) (j:=2) (nx:=n + o.mem.length + o.cores.length + 1) (cs:=[.sl fi o.mem.length,.sl (n + o.mem.length + o.cores.length) 0,.sc (.slice none 0 0),.sl af o.mem.length,.pt L0.m 1 0 0,.sl w o.cores.length,.sl la o.mem.length,bl false]) (d:=d1) (H:=(gg,some (.row 45 8 d1 [.agg [.sl fi o.mem.length,.sl (n + o.mem.length + o.cores.length) 0,.sc (.slice none 0 0),.sl af o.mem.length,.pt L0.m 1 0 0,.sl w o.cores.length,.sl la o.mem.length,bl false]])) :: (n + o.mem.length + o.cores.length,some (.row 74 5 .any [])) :: B) (by omega) (by omega) (getH_here _ _ _) (by simp) rfl
 refine ⟨_,_,⟨gg,fi,n + o.mem.length + o.cores.length,n + o.mem.length + o.cores.length + 1,af,(List.range o.mem.length).map (n + ·),w,(List.range o.cores.length).map (n + o.mem.length + ·),la,L0⟩,((k1.then k2).then k3).then k4,by omega,?_,rfl,rfl,hM.keepIds (fun y hy => ?_) (by omega),fun y hy => ?_,fun b hb h1 h2 h3 => ?_⟩
 ·have hs:∀ {y:Nat} {q1 q2 q3 q4:Option Blk},y ≠ gg→y < n + o.mem.length + o.cores.length→getH ((gg,q1) :: (n + o.mem.length + o.cores.length + 1,q2) :: (gg,q3) :: (n + o.mem.length + o.cores.length,q4) :: B) y = getH B y:=fun {y q1 q2 q3 q4} h1 h2 => by
   rw [getH_skipEq h1,getH_skipEq (by omega),getH_skipEq h1,getH_skipEq (by omega)]
  have m1:∀ y ∈ af :: (List.range o.mem.length).map (n + ·),y = af ∨ (n ≤ y∧y < n + o.mem.length):=fun y hy => by
   simp only [List.mem_cons,List.mem_map,List.mem_range] at hy
   rcases hy with hy|⟨i,hi,rfl⟩
   ·exact .inl hy
   ·exact .inr ⟨by omega,by omega⟩
  have m2:∀ y ∈ w :: (List.range o.cores.length).map (n + o.mem.length + ·),y = w ∨ (n + o.mem.length ≤ y∧y < n + o.mem.length + o.cores.length):=fun y hy => by
   simp only [List.mem_cons,List.mem_map,List.mem_range] at hy
   rcases hy with hy|⟨i,hi,rfl⟩
   ·exact .inl hy
   ·exact .inr ⟨by omega,by omega⟩
  have hMl:=hM.lt
  have e1:SI (List.replicate o.mem.length []) = List.replicate o.mem.length []:=by simp [SI]
  have e2:SI (List.replicate o.cores.length []) = List.replicate o.cores.length []:=by simp [SI]
  have hap:GApart ⟨gg,fi,n + o.mem.length + o.cores.length,n + o.mem.length + o.cores.length + 1,af,(List.range o.mem.length).map (n + ·),w,(List.range o.cores.length).map (n + o.mem.length + ·),la,L0⟩:=by
   refine ⟨x1,by show gg ≠ n + o.mem.length + o.cores.length;omega,by show gg ≠ n + o.mem.length + o.cores.length + 1;omega,x4,by show fi ≠ n + o.mem.length + o.cores.length;omega,by show fi ≠ n + o.mem.length + o.cores.length + 1;omega,x7,by show n + o.mem.length + o.cores.length ≠ n + o.mem.length + o.cores.length + 1;omega,by show n + o.mem.length + o.cores.length ≠ la;omega,by show n + o.mem.length + o.cores.length + 1 ≠ la;omega,fun x hx => ?_,fun x hx => ?_,fun x hx y hy => ?_,fun x hx y hy => ?_⟩
   ·dsimp only
    rcases m1 x hx with rfl|⟨h1,h2⟩
    ·exact ⟨x2,x5,by omega,by omega,Ne.symm x9⟩
    ·exact ⟨by omega,by omega,by omega,by omega,by omega⟩
   ·dsimp only
    rcases m2 x hx with rfl|⟨h1,h2⟩
    ·exact ⟨x3,x6,by omega,by omega,Ne.symm x10⟩
    ·exact ⟨by omega,by omega,by omega,by omega,by omega⟩
   ·rcases m1 x hx with rfl|⟨h1,h2⟩ <;> rcases m2 y hy with rfl|⟨h3,h4⟩
    ·exact x8
    ·omega
    ·omega
    ·omega
   ·have hy:y ∈ L0.ids:=hy
    have hyn:=hMl y hy
    have hx:x ∈ gg :: fi :: (n + o.mem.length + o.cores.length) :: (n + o.mem.length + o.cores.length + 1) :: la :: ((af :: (List.range o.mem.length).map (n + ·)) ++ (w :: (List.range o.cores.length).map (n + o.mem.length + ·))):=hx
    rw [List.mem_cons,List.mem_cons,List.mem_cons,List.mem_cons,List.mem_cons,List.mem_append] at hx
    rcases hx with rfl|rfl|rfl|rfl|rfl|hx|hx
    ·exact fun e => g3 (e ▸ hy)
    ·exact fun e => f3 (e ▸ hy)
    ·omega
    ·omega
    ·exact fun e => l3 (e ▸ hy)
    ·rcases m1 x hx with rfl|⟨h1,h2⟩
     ·exact fun e => a3 (e ▸ hy)
     ·omega
    ·rcases m2 x hx with rfl|⟨h1,h2⟩
     ·exact fun e => w3 (e ▸ hy)
     ·omega
  refine ⟨⟨_,getH_here _ _ _⟩,⟨d2,(hs (Ne.symm x1) (by omega)).trans ((fB fi (by omega) x6).trans ((fA fi f1 x5).trans r2))⟩,⟨.any,?_⟩,⟨.any,?_⟩,⟨d5,(hs (Ne.symm x4) (by omega)).trans ((fB la (by omega) (Ne.symm x10)).trans ((fA la l1 (Ne.symm x9)).trans r5))⟩,?_,?_,rfl,rfl,by simp [g0],by simp [g0],by simp [g0],fun y hy => ?_,GLay.nodup_mk hap q1.nodup q2.nodup hM.nodup⟩
  ·rw [getH_skipEq (by show n + o.mem.length + o.cores.length ≠ gg;omega),getH_skipEq (by show n + o.mem.length + o.cores.length ≠ _;omega),getH_skipEq (by show n + o.mem.length + o.cores.length ≠ gg;omega),getH_here]
   rfl
  ·rw [getH_skipEq (by show n + o.mem.length + o.cores.length + 1 ≠ gg;omega),getH_here]
   rfl
  ·show QAt _ _ 1 _ _ (SI (List.replicate o.mem.length [])) _
   rw [e1]
   refine q1.keep fun y hy => ?_
   have hg:=hap.af y hy
   rcases m1 y hy with rfl|⟨h1,h2⟩
   ·exact (hs (Ne.symm x2) (by omega)).trans (fB _ (by omega) x8)
   ·exact (hs (Ne.symm hg.1) (by omega)).trans (fB _ (by omega) (by omega))
  ·show QAt _ _ 1 _ _ (SI (List.replicate o.cores.length [])) _
   rw [e2]
   refine q2.keep fun y hy => ?_
   have hg:=hap.w y hy
   exact hs (Ne.symm hg.1) (by rcases m2 y hy with rfl|⟨h1,h2⟩ <;> omega)
  ·rcases List.mem_append.1 hy with hy|hy
   ·have hy:y ∈ gg :: fi :: (n + o.mem.length + o.cores.length) :: (n + o.mem.length + o.cores.length + 1) :: la :: ((af :: (List.range o.mem.length).map (n + ·)) ++ (w :: (List.range o.cores.length).map (n + o.mem.length + ·))):=hy
    rw [List.mem_cons,List.mem_cons,List.mem_cons,List.mem_cons,List.mem_cons,List.mem_append] at hy
    rcases hy with rfl|rfl|rfl|rfl|rfl|hy|hy
    ·omega
    ·omega
    ·omega
    ·omega
    ·omega
    ·rcases m1 y hy with rfl|⟨h1,h2⟩ <;> omega
    ·rcases m2 y hy with rfl|⟨h1,h2⟩ <;> omega
   ·have:=hMl y hy;omega
 ·have h1:=hM.lt y hy
  have hyg:y ≠ gg:=fun e => g3 (e ▸ hy)
  rw [getH_skipEq hyg,getH_skipEq (by omega),getH_skipEq hyg,getH_skipEq (by omega)]
  exact (fB y (by omega) (fun e => w3 (e ▸ hy))).trans (fA y h1 (fun e => a3 (e ▸ hy)))
 ·have hy:y ∈ gg :: fi :: (n + o.mem.length + o.cores.length) :: (n + o.mem.length + o.cores.length + 1) :: la :: ((af :: (List.range o.mem.length).map (n + ·)) ++ (w :: (List.range o.cores.length).map (n + o.mem.length + ·))):=hy
  simp only [List.mem_cons,List.mem_append,List.mem_map,List.mem_range] at hy
  rcases hy with rfl|rfl|rfl|rfl|rfl|(rfl|⟨i,_,rfl⟩)|(rfl|⟨i,_,rfl⟩) <;> omega
 ·rw [getH_skipEq h1,getH_skipEq (by omega),getH_skipEq h1,getH_skipEq (by omega)]
  exact (fB b (by omega) h3).trans (fA b hb h2)
theorem gborn_to {o:V.Obj} {s:V.Mach} {H:Hp} {n gg fi af w la lo:Nat} {L0:Lay} {d1 d3 d4:AV} {C:Hp→Nat→Prop} (hM:MAt o s L0 H n) (r1:getH H gg = some (.row 45 8 d1 [.agg [.sl fi o.mem.length,.sc (.slice none 0 0),.sc (.slice none 0 0),.sl af o.mem.length,.pt L0.m 1 0 0,.sl w o.cores.length,.sl la o.mem.length,bl false]]))
  (r2:∃ d,getH H fi = some (.row 2 1 d (o.mem.map i64))) (r3:getH H af = some (.row 28 1 d3 (List.replicate o.mem.length (.sc (.slice none 0 0))))) (r4:getH H w = some (.row 28 1 d4 (List.replicate o.cores.length (.sc (.slice none 0 0))))) (r5:∃ d,getH H la = some (.row 3 1 d ((List.replicate o.mem.length (-1)).map i64)))
  (hlt:∀ y ∈ [gg,fi,af,w,la],y < n∧lo ≤ y∧y ∉ L0.ids) (hnd:[gg,fi,af,w,la].Nodup)
  (hC:∀ H2 n2 L,n ≤ n2→GRow o.mem.length o.cores.length o.mem (g0 o) L false H2 n2→L.g = gg→L.M = L0→MAt o s L0 H2 n2→(∀ y ∈ L.own,lo ≤ y)→(∀ b,b < n→b ≠ gg→b ≠ af→b ≠ w→getH H2 b = getH H b)→C H2 n2):∃ H2 n2,Wk .any H n .any H2 n2∧C H2 n2:=by
 obtain ⟨H2,n2,L,k1,k2,k3,k4,k5,k6,k7,k8⟩:=gborn hM r1 r2 r3 r4 r5 hlt hnd
 exact ⟨H2,n2,k1,hC H2 n2 L k2 k3 k4 k5 k6 k7 k8⟩
theorem fill_get {α:Type} (a b d:α) {i m:Nat} (h:i < m):(List.replicate i a ++ List.replicate (m - i) b).getD i d = b:=by
 rw [List.getD,List.getElem?_append_right (by simp),List.length_replicate,Nat.sub_self]
 have:0 < m - i:=by omega
 simp [this]
theorem fill_set {α:Type} (a b:α) {i m:Nat} (h:i < m):(List.replicate i a ++ List.replicate (m - i) b).set i a = List.replicate (i + 1) a ++ List.replicate (m - (i + 1)) b:=by
 rw [List.set_append,if_neg (by simp),List.length_replicate,Nat.sub_self,show m - i = (m - (i + 1)) + 1 by omega,List.replicate_succ,List.set_cons_zero,List.replicate_succ']
 simp
set_option maxHeartbeats 8000000 in
set_option maxRecDepth 20000 in
theorem gather_call {o:V.Obj} (ho:o.Wf) (l:List V.StepV) (H:Hp) (nx:Nat):CallN Tryz.prog 4 [o.av,.im 2 .any (l.map V.StepV.av)] H nx (Gathered o l H nx):=by
 refine Go.fnL lf4 rfl ?_
 cases hok:objOk o with
 | false =>
  obtain ⟨k,n,hcb⟩:=check_bad hok
  have e:gathE o l = 160:=by rw [gathE,if_pos hok]
  repeat' (first|((with_reducible refine Go.red ?_);conv => whnf)|refine aG ?_|exact aC|with_reducible refine Go.and ?_ ?_|(apply Go.elem;(·exact aElem))|((with_reducible refine Go.callW (hcb ▸ V.check_pure o ho) ?_ ?_);(·exact aFit))|((with_reducible refine Go.callJ (fun _ => hcb ▸ V.check_pure o ho) ?_ ?_);(·exact aFit))|((with_reducible refine Go.callE (hcb ▸ V.check_pure o ho) ?_ ?_);(·exact aFit))|((with_reducible refine Go.callF (fun _ => hcb ▸ V.check_pure o ho) ?_ ?_);(·exact aFit))|refine aH ?_|((with_reducible refine Go.bool ?_ ?_) <;> intro hc <;> (try simp only [List.length_map,ne_eq,hcs] at hc) <;> try (exfalso;omega)))
  refine ⟨aNx,aKeep,?_⟩
  rw [e,if_neg (by decide)]
  rfl
 | true =>
  have hck:=check_ok hok ▸ V.check_pure o ho
  have ok:=objOk_ok hok
  by_cases hl:1048576 < l.length
  ·have e:gathE o l = 3:=by rw [gathE,if_neg (by rw [hok];decide),if_pos hl]
   repeat' (first|((with_reducible refine Go.red ?_);conv => whnf)|refine aG ?_|exact aC|with_reducible refine Go.and ?_ ?_|(apply Go.elem;(·exact aElem))|refine aK (hck) ?_|refine aH ?_|((with_reducible refine Go.bool ?_ ?_) <;> intro hc <;> (try simp only [List.length_map,ne_eq,hcs] at hc) <;> try (exfalso;omega)))
   refine ⟨⟨aNx,aKeep,?_⟩⟩
   rw [e,if_neg (by decide)]
   rfl
  ·have e:gathE o l = if 64 < (atP o l l.length).2.ev.length then 3 else 0:=by rw [gathE,if_neg (by rw [hok];decide),if_neg hl]
   have hc8:=ok.cores
   have hm4:=ok.mem
   repeat' (first|((with_reducible refine Go.red ?_);conv => whnf)|refine aG ?_|exact aC|with_reducible refine Go.and ?_ ?_|(apply Go.elem;(·exact aElem))|refine aK (hck) ?_|refine aH ?_|((with_reducible refine Go.bool ?_ ?_) <;> intro hc <;> (try simp only [List.length_map,ne_eq,hcs] at hc) <;> try (exfalso;omega)))
   refine Go.callN (new_ok ho ok hok) ?_
   rintro _ H2 n2 ⟨L0,rfl,hM0,h1,h2,h3⟩
   have t0:getH H2 nx = some (.row 25 5 .any [o.av]):=(h3 nx aNx).trans aRow
   have t1:getH H2 (nx + 1) = some (.row 31 4 noX [noX]):=(h3 (nx + 1) aNx).trans aRow
   have hn2:nx + 2 ≤ n2:=Nat.le_trans aNx h1
   repeat' (first|((with_reducible refine Go.red ?_);conv => whnf)|refine aG ?_|exact aCn|with_reducible refine Go.and ?_ ?_|((with_reducible refine Ask.mk ?_);first|exact aAsk|exact aAsk2|(intro h;simp_all [V.Obj.cells] <;> fail)|(simp_all [V.Obj.cells] <;> fail))|(apply Go.elem;(·exact aElem))|refine aK (hck) ?_|refine aH ?_|((with_reducible refine Go.bool ?_ ?_) <;> intro hc <;> (try simp only [List.length_map,ne_eq,hcs] at hc) <;> try (exfalso;omega)))
   refine Go.callN (CallN.freshN (es:=o.mem.map i64) (args2:=[.im 1 .any (o.mem.map i64)]) (clone_words_mk (by rw [List.length_map];omega)) (fun i hi => by rw [getD_av _ _ _ _ (by simpa using hi)];trivial) rfl (by simp [fitL,fitA,fitL_map])) ?_
   rintro _ _ _ ⟨rfl,rfl,rfl⟩
   repeat' (first|((with_reducible refine Go.red ?_);conv => whnf)|refine aG ?_|exact aCn|with_reducible refine Go.and ?_ ?_|((with_reducible refine Ask.mk ?_);first|exact aAsk|exact aAsk2|(intro h;simp_all [V.Obj.cells] <;> fail)|(simp_all [V.Obj.cells] <;> fail))|(apply Go.elem;(·exact aElem))|refine aH ?_|((with_reducible refine Go.bool ?_ ?_) <;> intro hc <;> (try simp only [List.length_map,ne_eq,hcs] at hc) <;> try (exfalso;omega)))
   simp only [List.length_map,Int.toNat_natCast]
   have hMl0:=hM0.lt
   have er0:(List.replicate 0 (-1:Int) ++ List.replicate (o.mem.length - 0) 0).map i64 = List.replicate o.mem.length (i64 0):=by simp
   have h2':∀ y ∈ L0.ids,nx + 2 ≤ y:=fun y hy => by have:=h2 y hy;omega
   refine Go.loop (fun i:Nat => [(1,.im 2 .any (l.map V.StepV.av)),(2,.pt nx 1 0 0),(4,.pt (nx + 1) 1 0 0),(11,.pt (n2 + 15) 1 0 0),(65,i64 o.mem.length),(66,i64 i)])
    (fun i H' n => i ≤ o.mem.length∧n2 + 40 ≤ n∧(∃ d,getH H' nx = some (.row 25 5 d [o.av]))∧(∃ d,getH H' (nx + 1) = some (.row 31 4 d [noX]))∧(∃ d,getH H' (n2 + 9) = some (.row 28 1 d (List.replicate o.cores.length (.sc (.slice none 0 0))))) ∧
     (∃ d,getH H' (n2 + 13) = some (.row 3 1 d ((List.replicate i (-1) ++ List.replicate (o.mem.length - i) 0).map i64)))∧(∃ d,getH H' (n2 + 15) = some (.row 45 8 d [.agg [.sl (n2 + 20) o.mem.length,.sc (.slice none 0 0),.sc (.slice none 0 0),.sl (n2 + 29) o.mem.length,.pt L0.m 1 0 0,.sl (n2 + 9) o.cores.length,.sl (n2 + 13) o.mem.length,bl false]])) ∧
     (∃ d,getH H' (n2 + 20) = some (.row 2 1 d (o.mem.map i64)))∧(∃ d,getH H' (n2 + 29) = some (.row 28 1 d (List.replicate o.mem.length (.sc (.slice none 0 0)))))∧MAt o (initM o) L0 H' n∧∀ b,b < nx→getH H' b = getH H b)
    (fun i => o.mem.length - i) 0 aLess ⟨Nat.zero_le _,aNx,⟨_,aRow⟩,⟨_,aRow⟩,⟨_,aRow⟩,⟨_,(by rw [er0];exact aRow)⟩,⟨_,aRow⟩,⟨_,aRow⟩,⟨_,aRow⟩,hM0.keep aKeep aNx,fun b hb => (aSkip:_ = getH H2 b).trans ((h3 b (by omega)).trans aSkip)⟩ ?_
   rintro i H5 n5 ⟨hi,hn5,⟨d0,r0⟩,⟨dx,rx⟩,⟨dw,rw5⟩,⟨dl,rl⟩,⟨dg,rg⟩,⟨df,rf⟩,⟨da,ra⟩,hM5,hf5⟩
   by_cases him:i < o.mem.length
   ·have hll:((List.replicate i (-1:Int) ++ List.replicate (o.mem.length - i) 0).map i64).length = o.mem.length:=by simp;omega
    have hel:∀ e,((List.replicate i (-1:Int) ++ List.replicate (o.mem.length - i) 0).map i64).getD ((i:Int)).toNat e = i64 0:=fun e => by
     rw [Int.toNat_natCast,getD_av i64 _ _ _ (by simp;omega),fill_get _ _ _ him]
    repeat' (first|((with_reducible refine Go.red ?_);conv => whnf)|refine aG ?_|exact aC|with_reducible refine Go.and ?_ ?_|(apply Go.elem;(·(first|exact hel _|exact aElem)))|refine aH ?_|((with_reducible refine Go.bool ?_ ?_) <;> intro hc <;> (try simp only [List.length_map,ne_eq,hcs] at hc) <;> try (exfalso;omega)))
    refine ⟨i + 1,by omega,aLess,by omega,aNx,⟨_,aRow⟩,⟨_,aRow⟩,⟨_,aRow⟩,⟨_,(by rw [← fill_set (-1:Int) 0 him,List.map_set];exact aRow)⟩,⟨_,aRow⟩,⟨_,aRow⟩,⟨_,aRow⟩,hM5.keepIds (fun y hy => ?_) aNx,fun b hb => (aSkip:_ = getH H5 b).trans (hf5 b hb)⟩
    have:=hMl0 y hy
    exact aSkip
   have hie:i = o.mem.length:=by omega
   subst hie
   have er1:(List.replicate o.mem.length (-1:Int) ++ List.replicate (o.mem.length - o.mem.length) 0).map i64 = (List.replicate o.mem.length (-1)).map i64:=by simp
   rw [er1] at rl
   clear h3 t0 t1 h2 hM0 er0 er1
   repeat' (first|((with_reducible refine Go.red ?_);conv => whnf)|refine aG ?_|exact aC|with_reducible refine Go.and ?_ ?_|(apply Go.elem;(·exact aElem))|refine aH ?_|((with_reducible refine Go.bool ?_ ?_) <;> intro hc <;> (try simp only [List.length_map,ne_eq,hcs] at hc) <;> try (exfalso;omega)))
   have hfew:l.length ≤ 1048576:=by omega
   have hGM:=fun i (h:i ≤ l.length) => GM.at ok l i h
   refine Go.loopT (fun i:Nat => [(1,.im 2 .any (l.map V.StepV.av)),(2,.pt nx 1 0 0),(4,.pt (nx + 1) 1 0 0),(11,.pt (n2 + 15) 1 0 0),(76,.im 2 .any (l.map V.StepV.av)),(77,i64 l.length),(78,i64 i)])
    (fun i H' n => i ≤ l.length∧nx + 2 ≤ n∧(∃ d,getH H' nx = some (.row 25 5 d [o.av]))∧(∃ d,getH H' (nx + 1) = some (.row 31 4 d [noX]))∧(∀ b,b < nx→getH H' b = getH H b) ∧
     ∃ s g L many,GRow o.mem.length o.cores.length o.mem g L many H' n∧MAt o s L.M H' n∧L.g = n2 + 15∧(∀ y ∈ L.ids,nx + 2 ≤ y)∧(many = false→(s,g) = atP o l i∧g.ev.length ≤ 64)∧(many = true→64 < (atP o l l.length).2.ev.length))
    (fun i => l.length - i) 0 aLess ?_ ?_
   ·refine gborn_to (lo:=nx + 2) (gg:=n2 + 15) (fi:=n2 + 20) (af:=n2 + 29) (w:=n2 + 9) (la:=n2 + 13) (hM5.keep aKeep aNx) aRow ⟨_,aRow⟩ aRow aRow ⟨_,aRow⟩ (fun y hy => ?_) ?_ (fun H2' n2' L k2 k3 k4 k5 k6 k7 k8 => ?_)
    ·have hy2:y = n2 + 15 ∨ y = n2 + 20 ∨ y = n2 + 29 ∨ y = n2 + 9 ∨ y = n2 + 13:=by simpa using hy
     refine ⟨by rcases hy2 with rfl|rfl|rfl|rfl|rfl <;> exact aNx,by omega,fun hm => by have:=hMl0 y hm;omega⟩
    ·simp only [List.nodup_cons,List.mem_cons,List.not_mem_nil,or_false,not_or,not_false_eq_true,List.nodup_nil,and_true]
     omega
    ·have hn52:n5 ≤ n2':=Nat.le_trans aNx k2
     refine ⟨Nat.zero_le _,by omega,⟨d0,(k8 nx aNx (by omega) (by omega) (by omega)).trans aRow⟩,⟨dx,(k8 (nx + 1) aNx (by omega) (by omega) (by omega)).trans aRow⟩,fun b hb => (k8 b aNx (by omega) (by omega) (by omega)).trans ((aSkip:_ = getH H5 b).trans (hf5 b hb)),initM o,g0 o,L,false,k3,by rw [k5];exact k6,k4,fun y hy => ?_,fun _ => ⟨rfl,Nat.zero_le _⟩,fun h => (by cases h)⟩
     rcases List.mem_append.1 hy with hy|hy
     ·exact k7 y hy
     ·rw [k5] at hy;exact h2' y hy
   rintro i H6 n6 ⟨hi6,hn6,⟨d06,r06⟩,⟨dx6,rx6⟩,hf6,s,g,L,many,hG6,hM6,hLg,hL6,hmf,hmt⟩
   obtain ⟨dg6,rg6⟩:=hG6.row
   rw [hLg] at rg6
   have hgm:L.g ∈ L.ids:=List.mem_append_left _ (by simp [GLay.own])
   have hgn:=hG6.lt _ hgm
   have hg2:=hL6 _ hgm
   rw [hLg] at hgn hg2
   by_cases hil:i < l.length
   ·cases many with
    | true =>
     repeat' (first|((with_reducible refine Go.red ?_);conv => whnf)|refine aG ?_|exact aCn|with_reducible refine Go.and ?_ ?_|((with_reducible refine Ask.mk ?_);first|exact aAsk|exact aAsk2|(intro h;simp_all [V.StepV.cells] <;> fail)|(simp_all [V.StepV.cells] <;> fail))|(apply Go.elem;(·exact aElem))|refine aH ?_|((with_reducible refine Go.bool ?_ ?_) <;> intro hc <;> (try simp only [List.length_map,ne_eq,hcs] at hc) <;> try (exfalso;omega)))
     refine Go.loop (fun k:Nat => [(2,.pt nx 1 0 0),(4,.pt (nx + 1) 1 0 0),(11,.pt (n2 + 15) 1 0 0),(92,i64 o.cores.length),(93,i64 k)])
      (fun k H' n => k ≤ o.cores.length∧n6 ≤ n∧(∃ d,getH H' nx = some (.row 25 5 d [o.av]))∧(∃ d,getH H' (nx + 1) = some (.row 31 4 d [noX]))∧(∃ d,getH H' (n2 + 15) = some (.row 45 8 d [gathAv o.mem.length o.cores.length g.ev.length L true]))∧∀ b,b < nx→getH H' b = getH H b)
      (fun k => o.cores.length - k) 0 aLess ⟨Nat.zero_le _,aNx,⟨_,aRow⟩,⟨_,aRow⟩,⟨_,aRow⟩,fun b hb => (aSkip:_ = getH H6 b).trans (hf6 b hb)⟩ ?_
     rintro k H7 n7 ⟨hk,hn7,⟨d07,r07⟩,⟨dx7,rx7⟩,⟨dg7,rg7⟩,hf7⟩
     by_cases hkl:k < o.cores.length
     ·repeat' (first|((with_reducible refine Go.red ?_);conv => whnf)|refine aG ?_|exact aC|with_reducible refine Go.and ?_ ?_|(apply Go.elem;(·exact aElem))|refine aH ?_|((with_reducible refine Go.bool ?_ ?_) <;> intro hc <;> (try simp only [List.length_map,ne_eq,hcs] at hc) <;> try (exfalso;omega)))
      refine Go.head ?_
      repeat' (first|((with_reducible refine Go.red ?_);conv => whnf)|refine aG ?_|exact aC|with_reducible refine Go.and ?_ ?_|(apply Go.elem;(·exact aElem))|refine aH ?_|((with_reducible refine Go.bool ?_ ?_) <;> intro hc <;> (try simp only [List.length_map,ne_eq,hcs] at hc) <;> try (exfalso;omega)))
      exact ⟨k + 1,by omega,aLess,by omega,aNx,⟨_,aRow⟩,⟨_,aRow⟩,⟨_,aRow⟩,fun b hb => (aSkip:_ = getH H7 b).trans (hf7 b hb)⟩
     ·repeat' (first|((with_reducible refine Go.red ?_);conv => whnf)|refine aG ?_|exact aC|with_reducible refine Go.and ?_ ?_|(apply Go.elem;(·exact aElem))|refine aH ?_|((with_reducible refine Go.bool ?_ ?_) <;> intro hc <;> (try simp only [List.length_map,ne_eq,hcs] at hc) <;> try (exfalso;omega)))
      refine ⟨⟨aNx,fun b hb => (aSkip:_ = getH H7 b).trans (hf7 b hb),?_⟩⟩
      rw [e,if_pos (hmt rfl),if_neg (by decide)]
      rfl
    | false =>
     obtain ⟨hsg,hbd⟩:=hmf rfl
     obtain ⟨hgm6,hpr⟩:=hGM i hi6
     rw [← hsg] at hgm6 hpr
     obtain ⟨τ,κ,gi⟩:=hgm6.gi
     have hpr:s.prints.length ≤ i:=hpr
     repeat' (first|((with_reducible refine Go.red ?_);conv => whnf)|refine aG ?_|exact aCn|with_reducible refine Go.and ?_ ?_|((with_reducible refine Ask.mk ?_);first|exact aAsk|exact aAsk2|(intro h;simp_all [V.StepV.cells] <;> fail)|(simp_all [V.StepV.cells] <;> fail))|(apply Go.elem;(·exact aElem))|refine aH ?_|((with_reducible refine Go.bool ?_ ?_) <;> intro hc <;> (try simp only [List.length_map,ne_eq,hcs] at hc) <;> try (exfalso;omega)))
     have hcall:=fun H n (hG:GRow o.mem.length o.cores.length o.mem g L false H n) (hM:MAt o s L.M H n) => gstep_call hG hM hgm6.gd ok (by omega) gi hgm6.ml hbd (l.getD i default)
     rw [hLg] at hcall
     refine Go.callN (hcall _ _ (hG6.keep (fun y hy => (by have:=own_lt hG6 y hy;exact aSkip)) aNx) (hM6.keep aKeep aNx)) ?_
     rintro _ H7 n7 ⟨rfl,L7,hO⟩
     have hn7:=hO.le
     have f7:∀ b,b < n6→b ∉ L.ids→getH H7 b = getH H6 b:=fun b hb hbo => (hO.same b aNx hbo).trans aSkip
     have hids7:∀ y ∈ L7.ids,nx + 2 ≤ y:=fun y hy => (hO.ids y hy).elim (hL6 y) (fun h => by have:=Nat.le_trans (aNx:n6 ≤ _) h;omega)
     have hno:∀ b,b < nx + 2→b ∉ L.ids:=fun b hb hm => by have:=hL6 b hm;omega
     have hn67:n6 ≤ n7:=Nat.le_trans aNx hn7
     obtain ⟨hOg,hOr,hOM⟩:=(⟨hO.g,hO.row,hO.M⟩:_∧_∧_)
     have r07:=(f7 nx (by omega) (hno nx (by omega))).trans r06
     have rx7:=(f7 (nx + 1) (by omega) (hno (nx + 1) (by omega))).trans rx6
     have hsp:=stepG_spec o (s,g) (l.getD i default) hbd
     have hnext:=atP_next (o:=o) hil
     rw [← hsg] at hnext
     clear hO
     repeat' (first|((with_reducible refine Go.red ?_);conv => whnf)|refine aG ?_|exact aC|with_reducible refine Go.and ?_ ?_|(apply Go.elem;(·exact aElem))|refine aH ?_|((with_reducible refine Go.bool ?_ ?_) <;> intro hc <;> (try simp only [List.length_map,ne_eq,hcs] at hc) <;> try (exfalso;omega)))
     refine ⟨i + 1,by omega,aLess,_,_,Wk.refl _ _ _,by omega,by omega,⟨_,aRow⟩,⟨_,aRow⟩,fun b hb => (aSkip:_ = getH H7 b).trans ((f7 b (by omega) (hno b (by omega))).trans (hf6 b hb)),_,_,L7,_,hOr.keep (fun y hy => ?_) aNx,hOM.keep aKeep aNx,by rw [hOg,hLg],hids7,fun hm => ?_,fun hm => ?_⟩
     ·have:=own_lt hOr y hy
      exact aSkip
     ·rcases hsp with ⟨h1,h2,h3⟩|⟨h1,h2⟩
      ·rw [h2,hnext]
       exact ⟨rfl,h3⟩
      ·rw [h1] at hm;cases hm
     ·rcases hsp with ⟨h1,h2,h3⟩|⟨h1,h2⟩
      ·rw [h1] at hm;cases hm
      ·rw [← hnext] at h2
       have:=atP_mono o l (i:=i + 1) (l.length - (i + 1)) (by omega)
       rw [show i + 1 + (l.length - (i + 1)) = l.length by omega] at this
       omega
   ·have hil:i = l.length:=by omega
    subst hil
    cases many with
    | true =>
     repeat' (first|((with_reducible refine Go.red ?_);conv => whnf)|refine aG ?_|exact aC|with_reducible refine Go.and ?_ ?_|(apply Go.elem;(·exact aElem))|refine aH ?_|((with_reducible refine Go.bool ?_ ?_) <;> intro hc <;> (try simp only [List.length_map,ne_eq,hcs] at hc) <;> try (exfalso;omega)))
     refine Go.loop (fun k:Nat => [(2,.pt nx 1 0 0),(4,.pt (nx + 1) 1 0 0),(11,.pt (n2 + 15) 1 0 0),(92,i64 o.cores.length),(93,i64 k)])
      (fun k H' n => k ≤ o.cores.length∧n6 ≤ n∧(∃ d,getH H' nx = some (.row 25 5 d [o.av]))∧(∃ d,getH H' (nx + 1) = some (.row 31 4 d [noX]))∧(∃ d,getH H' (n2 + 15) = some (.row 45 8 d [gathAv o.mem.length o.cores.length g.ev.length L true]))∧∀ b,b < nx→getH H' b = getH H b)
      (fun k => o.cores.length - k) 0 aLess ⟨Nat.zero_le _,aNx,⟨_,aRow⟩,⟨_,aRow⟩,⟨_,aRow⟩,fun b hb => (aSkip:_ = getH H6 b).trans (hf6 b hb)⟩ ?_
     rintro k H7 n7 ⟨hk,hn7,⟨d07,r07⟩,⟨dx7,rx7⟩,⟨dg7,rg7⟩,hf7⟩
     by_cases hkl:k < o.cores.length
     ·repeat' (first|((with_reducible refine Go.red ?_);conv => whnf)|refine aG ?_|exact aC|with_reducible refine Go.and ?_ ?_|(apply Go.elem;(·exact aElem))|refine aH ?_|((with_reducible refine Go.bool ?_ ?_) <;> intro hc <;> (try simp only [List.length_map,ne_eq,hcs] at hc) <;> try (exfalso;omega)))
      refine Go.head ?_
      repeat' (first|((with_reducible refine Go.red ?_);conv => whnf)|refine aG ?_|exact aC|with_reducible refine Go.and ?_ ?_|(apply Go.elem;(·exact aElem))|refine aH ?_|((with_reducible refine Go.bool ?_ ?_) <;> intro hc <;> (try simp only [List.length_map,ne_eq,hcs] at hc) <;> try (exfalso;omega)))
      exact ⟨k + 1,by omega,aLess,by omega,aNx,⟨_,aRow⟩,⟨_,aRow⟩,⟨_,aRow⟩,fun b hb => (aSkip:_ = getH H7 b).trans (hf7 b hb)⟩
     ·repeat' (first|((with_reducible refine Go.red ?_);conv => whnf)|refine aG ?_|exact aC|with_reducible refine Go.and ?_ ?_|(apply Go.elem;(·exact aElem))|refine aH ?_|((with_reducible refine Go.bool ?_ ?_) <;> intro hc <;> (try simp only [List.length_map,ne_eq,hcs] at hc) <;> try (exfalso;omega)))
      refine ⟨⟨aNx,fun b hb => (aSkip:_ = getH H7 b).trans (hf7 b hb),?_⟩⟩
      rw [e,if_pos (hmt rfl),if_neg (by decide)]
      rfl
    | false =>
     obtain ⟨hsg,hbd⟩:=hmf rfl
     obtain ⟨hgm6,hpr⟩:=hGM l.length (Nat.le_refl _)
     rw [← hsg] at hgm6 hpr e
     have e:gathE o l = 0:=by rw [e,if_neg (by show ¬ 64 < g.ev.length;omega)]
     have eG:gathG o l = g.finTo o.cores.length:=by unfold gathG;rw [← hsg]
     repeat' (first|((with_reducible refine Go.red ?_);conv => whnf)|refine aG ?_|exact aC|with_reducible refine Go.and ?_ ?_|(apply Go.elem;(·exact aElem))|refine aH ?_|((with_reducible refine Go.bool ?_ ?_) <;> intro hc <;> (try simp only [List.length_map,ne_eq,hcs] at hc) <;> try (exfalso;omega)))
     refine Go.loop (fun k:Nat => [(2,.pt nx 1 0 0),(4,.pt (nx + 1) 1 0 0),(11,.pt (n2 + 15) 1 0 0),(92,i64 o.cores.length),(93,i64 k)])
      (fun k H' n => k ≤ o.cores.length∧nx + 2 ≤ n∧(∃ d,getH H' nx = some (.row 25 5 d [o.av]))∧(∃ d,getH H' (nx + 1) = some (.row 31 4 d [noX]))∧(∀ b,b < nx→getH H' b = getH H b) ∧
       ∃ s g' L now,GRow o.mem.length o.cores.length o.mem g' L false H' n∧MAt o s L.M H' n∧L.g = n2 + 15∧(∀ y ∈ L.ids,nx + 2 ≤ y)∧GM o (s,g') now∧g' = g.finTo k∧s.prints.length ≤ l.length∧g'.ev.length ≤ 64)
      (fun k => o.cores.length - k) 0 aLess ⟨Nat.zero_le _,by omega,⟨_,aRow⟩,⟨_,aRow⟩,fun b hb => (aSkip:_ = getH H6 b).trans (hf6 b hb),s,g,L,_,hG6.keep (fun y hy => (by have:=own_lt hG6 y hy;exact aSkip)) aNx,hM6.keep aKeep aNx,hLg,hL6,hgm6,rfl,hpr,hbd⟩ ?_
     clear hG6 hM6 hL6 hmf hmt hsg hgm6 hpr hbd rg6 r06 rx6 hf6 hgm hLg hgn hg2
     rintro k H7 n7 ⟨hk,hn7,⟨d07,r07⟩,⟨dx7,rx7⟩,hf7,s7,g7,L7,now7,hG7,hM7,hLg7,hL7,hgm7,hg7,hpr7,hbd7⟩
     obtain ⟨dg7,rg7⟩:=hG7.row
     rw [hLg7] at rg7
     have hgmm:L7.g ∈ L7.ids:=List.mem_append_left _ (by simp [GLay.own])
     have hgn7:=hG7.lt _ hgmm
     have hgl7:=hL7 _ hgmm
     rw [hLg7] at hgn7 hgl7
     by_cases hkl:k < o.cores.length
     ·repeat' (first|((with_reducible refine Go.red ?_);conv => whnf)|refine aG ?_|exact aC|with_reducible refine Go.and ?_ ?_|(apply Go.elem;(·exact aElem))|refine aH ?_|((with_reducible refine Go.bool ?_ ?_) <;> intro hc <;> (try simp only [List.length_map,ne_eq,hcs] at hc) <;> try (exfalso;omega)))
      refine Go.loop (fun j:Nat => [(2,.pt nx 1 0 0),(4,.pt (nx + 1) 1 0 0),(11,.pt (n2 + 15) 1 0 0),(15,i64 k),(92,i64 o.cores.length),(93,i64 k)])
       (fun j H' n => nx + 2 ≤ n∧(∃ d,getH H' nx = some (.row 25 5 d [o.av]))∧(∃ d,getH H' (nx + 1) = some (.row 31 4 d [noX]))∧(∀ b,b < nx→getH H' b = getH H b) ∧
        ∃ s g' L now,GRow o.mem.length o.cores.length o.mem g' L false H' n∧MAt o s L.M H' n∧L.g = n2 + 15∧(∀ y ∈ L.ids,nx + 2 ≤ y)∧GM o (s,g') now∧(g'.w k).length = j∧GS.drainN k j g' = g.finTo (k + 1)∧s.prints.length ≤ l.length∧g'.ev.length ≤ 64)
       (fun j => j) (g7.w k).length aLess ⟨by omega,⟨_,aRow⟩,⟨_,aRow⟩,fun b hb => (aSkip:_ = getH H7 b).trans (hf7 b hb),s7,g7,L7,_,hG7.keep (fun y hy => (by have:=own_lt hG7 y hy;exact aSkip)) aNx,hM7.keep aKeep aNx,hLg7,hL7,hgm7,rfl,by rw [hg7];rfl,hpr7,hbd7⟩ ?_
      clear hG7 hM7 hL7 hg7 hgm7 hpr7 hbd7 rg7 r07 rx7 hf7 hgmm hLg7 hgn7 hgl7
      rintro j H8 n8 ⟨hn8,⟨d08,r08⟩,⟨dx8,rx8⟩,hf8,s8,g8,L8,now8,hG8,hM8,hLg8,hL8,hgm8,hj8,hd8,hpr8,hbd8⟩
      obtain ⟨dg8,rg8⟩:=hG8.row
      rw [hLg8] at rg8
      have hgmm:L8.g ∈ L8.ids:=List.mem_append_left _ (by simp [GLay.own])
      have hwmm:L8.w ∈ L8.own:=by simp [GLay.own]
      have hwn8:=own_lt hG8 _ hwmm
      have hgn8:=hG8.lt _ hgmm
      have hgl8:=hL8 _ hgmm
      rw [hLg8] at hgn8 hgl8
      have hkq:k < g8.q.length:=by rw [hG8.lq];exact hkl
      obtain ⟨dw8,rw8⟩:=hG8.w.row
      obtain ⟨dq8,rq8⟩:=SI_at hG8.w hkq
      have hino:L8.ws.getD k 0 ∈ L8.own:=by
       have hin:=SI_in hG8.w hkq
       simp only [GLay.own,List.mem_cons,List.mem_append];exact .inr (.inr (.inr (.inr (.inr (.inr (.inr hin))))))
      have hqn8:=own_lt hG8 _ hino
      have hwl8:(qRow L8.ws (SI g8.q)).length = o.cores.length:=by rw [hG8.w.len,SI_len,hG8.lq]
      have hwe8:=SI_row hG8.w hkq
      have hj9:(g8.q.getD k []).length = j:=hj8
      rw [hj9] at hwe8
      by_cases hj0:0 < j
      ·repeat' (first|((with_reducible refine Go.red ?_);conv => whnf)|refine aG ?_|exact aC|with_reducible refine Go.and ?_ ?_|(apply Go.elem;(·(first|exact hwe8 _|exact aElem)))|refine aH ?_|((with_reducible refine Go.bool ?_ ?_) <;> intro hc <;> (try simp only [List.length_map,ne_eq,hcs] at hc) <;> try (exfalso;omega)))
       all_goals try (exfalso;rcases hc with h|h <;> first|exact h trivial|omega)
       obtain ⟨τ,κ,gi⟩:=hgm8.gi
       have hcall:=fun H n (hG:GRow o.mem.length o.cores.length o.mem g8 L8 false H n) (hM:MAt o s8 L8.M H n) => gstep_call hG hM hgm8.gd ok (by omega) gi hgm8.ml hbd8 (⟨2,k⟩:V.StepV)
       rw [hLg8] at hcall
       refine Go.callN (hcall _ _ (hG8.keep (fun y hy => (by have:=own_lt hG8 y hy;exact aSkip)) aNx) (hM8.keep aKeep aNx)) ?_
       rintro _ H9 n9 ⟨rfl,L9,hO⟩
       have hn9:=hO.le
       have f9:∀ b,b < n8→b ∉ L8.ids→getH H9 b = getH H8 b:=fun b hb hbo => (hO.same b aNx hbo).trans aSkip
       have hn89:n8 ≤ n9:=Nat.le_trans aNx hn9
       have hids9:∀ y ∈ L9.ids,nx + 2 ≤ y:=fun y hy => (hO.ids y hy).elim (hL8 y) (fun h => by have:=Nat.le_trans (aNx:n8 ≤ _) h;omega)
       have hno:∀ b,b < nx + 2→b ∉ L8.ids:=fun b hb hm => by have:=hL8 b hm;omega
       obtain ⟨hOg,hOr,hOM⟩:=(⟨hO.g,hO.row,hO.M⟩:_∧_∧_)
       have r09:=(f9 nx (by omega) (hno nx (by omega))).trans r08
       have rx9:=(f9 (nx + 1) (by omega) (hno (nx + 1) (by omega))).trans rx8
       have hsp:=stepG_spec o (s8,g8) ⟨2,k⟩ hbd8
       have hw0:g8.w k ≠ []:=fun he => by rw [he] at hj8;simp at hj8;omega
       obtain ⟨hdr1,hdr2⟩:=hgm8.drain ok hkl hw0
       have hgm9:=hgm8.step ok ⟨2,k⟩
       rw [hdr1] at hsp
       have hlen9:(g8.drain1 k).ev.length ≤ 64:=hbd8
       have hst:(stepG g8 (stepS o s8 2 k)).2 = false∧(stepG g8 (stepS o s8 2 k)).1 = g8.drain1 k:=by
        rcases hsp with ⟨h1,h2,_⟩|⟨_,h2⟩
        ·exact ⟨h1,h2⟩
        ·have h2:64 < (g8.drain1 k).ev.length:=h2
         omega
       dsimp only at hOr
       rw [hst.1,hst.2] at hOr
       have hpair:stepP o (s8,g8) ⟨2,k⟩ = ((stepS o s8 2 k).1,g8.drain1 k):=Prod.ext rfl hdr1
       rw [hpair] at hgm9 hdr2
       clear hO
       repeat' (first|((with_reducible refine Go.red ?_);conv => whnf)|refine aG ?_|exact aC|with_reducible refine Go.and ?_ ?_|(apply Go.elem;(·exact aElem))|refine aH ?_|((with_reducible refine Go.bool ?_ ?_) <;> intro hc <;> (try simp only [List.length_map,ne_eq,hcs] at hc) <;> try (exfalso;omega)))
       refine ⟨j - 1,by omega,aLess,by omega,⟨_,aRow⟩,⟨_,aRow⟩,fun b hb => (aSkip:_ = getH H9 b).trans ((f9 b (by omega) (hno b (by omega))).trans (hf8 b hb)),_,_,L9,_,hOr.keep (fun y hy => rfl) aNx,hOM.keep aKeep aNx,by rw [hOg,hLg8],hids9,hgm9,?_,?_,?_,hlen9⟩
       ·rw [drain1_w _ _ _ hkq,if_pos rfl,List.length_tail,hj8]
       ·rw [← hd8]
        obtain ⟨j',rfl⟩:∃ j',j = j' + 1:=⟨j - 1,by omega⟩
        rfl
       ·have:(stepS o s8 2 k).1.prints = s8.prints:=hdr2
        rw [this];exact hpr8
      ·have hj0:j = 0:=by omega
       subst hj0
       repeat' (first|((with_reducible refine Go.red ?_);conv => whnf)|refine aG ?_|exact aC|with_reducible refine Go.and ?_ ?_|(apply Go.elem;(·(first|exact hwe8 _|exact aElem)))|refine aH ?_|((with_reducible refine Go.bool ?_ ?_) <;> intro hc <;> (try simp only [List.length_map,ne_eq,hcs] at hc) <;> try (exfalso;omega)))
       exact ⟨k + 1,by omega,aLess,by omega,by omega,⟨_,aRow⟩,⟨_,aRow⟩,fun b hb => (aSkip:_ = getH H8 b).trans (hf8 b hb),s8,g8,L8,_,hG8.keep (fun y hy => (by have:=own_lt hG8 y hy;exact aSkip)) aNx,hM8.keep aKeep aNx,hLg8,hL8,hgm8,hd8,hpr8,hbd8⟩
     ·have:k = o.cores.length:=by omega
      subst this
      repeat' (first|((with_reducible refine Go.red ?_);conv => whnf)|refine aG ?_|exact aC|with_reducible refine Go.and ?_ ?_|(apply Go.elem;(·exact aElem))|refine aH ?_|((with_reducible refine Go.bool ?_ ?_) <;> intro hc <;> (try simp only [List.length_map,ne_eq,hcs] at hc) <;> try (exfalso;omega)))
      refine ⟨⟨by omega,fun b hb => (aSkip:_ = getH H7 b).trans (hf7 b hb),?_⟩⟩
      rw [e,if_pos rfl,eG,← hg7]
      exact ⟨L7,rfl,hG7.keep (fun y hy => (by have:=own_lt hG7 y hy;have:=hL7 y (List.mem_append_left _ hy);exact aSkip)) aNx,fun y hy => by have:=hL7 y hy;omega⟩
end Go.Proofs.YtflicfkgbjmffaaGreat
end
section
/- All that waits comes at last; what is gathered then. -/
namespace Go.Proofs.YtflicfkgbjmffaaGreat
open Go Go.Abs Go.Proofs V
set_option linter.unusedSimpArgs false
set_option linter.unusedVariables false
theorem drainN_gm {o:V.Obj} (ok:V.ObjOk o) {c:Nat} (hc:c < o.cores.length):∀ (n:Nat) (s:V.Mach) (g:GS) (now:Nat),GM o (s,g) now→(g.w c).length = n →
  ∃ s' now',GM o (s',GS.drainN c n g) now'∧(GS.drainN c n g).w c = []∧(∀ c',c' ≠ c→(GS.drainN c n g).w c' = g.w c')∧(GS.drainN c n g).ev = g.ev
 | 0,s,g,now,h,hn => ⟨s,now,h,List.eq_nil_of_length_eq_zero hn,fun _ _ => rfl,rfl⟩
 | n + 1,s,g,now,h,hn => by
  have hw:g.w c ≠ []:=fun he => by rw [he] at hn;simp at hn
  obtain ⟨h1,_⟩:=h.drain ok hc hw
  have h2:=h.step ok ⟨2,c⟩
  have hpair:stepP o (s,g) ⟨2,c⟩ = ((stepP o (s,g) ⟨2,c⟩).1,g.drain1 c):=Prod.ext rfl h1
  rw [hpair] at h2
  have hcq:c < g.q.length:=by obtain ⟨τ,κ,gi⟩:=h.gi;have:=gi.lq;show c < g.q.length;rw [show g.q.length = o.cores.length from this];exact hc
  have hw1:=fun c' => drain1_w g c c' hcq
  obtain ⟨s',now',a1,a2,a3,a4⟩:=drainN_gm ok hc n _ (g.drain1 c) _ h2 (by rw [hw1,if_pos rfl,List.length_tail,hn];rfl)
  exact ⟨s',now',a1,a2,fun c' hne => by rw [show (GS.drainN c (n + 1) g) = GS.drainN c n (g.drain1 c) from rfl,a3 c' hne,hw1,if_neg hne],a4⟩
theorem finTo_gm {o:V.Obj} (ok:V.ObjOk o) {s:V.Mach} {g:GS} {now:Nat} (h:GM o (s,g) now):∀ k,k ≤ o.cores.length→∃ s' now',GM o (s',g.finTo k) now'∧(∀ c,c < k→(g.finTo k).w c = [])∧(g.finTo k).ev = g.ev
 | 0,_ => ⟨s,now,h,fun c hc => by omega,rfl⟩
 | k + 1,hk => by
  obtain ⟨s1,n1,h1,h2,h3⟩:=finTo_gm ok h k (by omega)
  obtain ⟨s2,n2,a1,a2,a3,a4⟩:=drainN_gm ok (c:=k) (by omega) _ s1 (g.finTo k) n1 h1 rfl
  refine ⟨s2,n2,a1,fun c hc => ?_,a4.trans h3⟩
  by_cases hck:c = k
  ·rw [hck];exact a2
  ·rw [show g.finTo (k + 1) = GS.drainN k ((g.finTo k).w k).length (g.finTo k) from rfl,a3 c hck]
   exact h2 c (by omega)
def gathX (o:V.Obj) (l:List V.StepV):Exec:=(gathG o l).exec o.mem
theorem gath_fin {o:V.Obj} (l:List V.StepV) (h:gathE o l = 0):∃ τ κ now,GI o.mem.length o.cores.length o.mem (gathG o l) τ κ now∧AllC o.cores.length (gathG o l)∧(gathG o l).ev.length ≤ 64:=by
 unfold gathE at h
 cases hok:objOk o with
 | false => rw [if_pos hok] at h;cases h
 | true =>
  rw [if_neg (by rw [hok];decide)] at h
  have ok:=objOk_ok hok
  by_cases h1:1048576 < l.length
  ·rw [if_pos h1] at h;cases h
  rw [if_neg h1] at h
  by_cases h2:64 < (atP o l l.length).2.ev.length
  ·rw [if_pos h2] at h;cases h
  obtain ⟨s,now,hg,hw,he⟩:=finTo_gm ok (s:=(atP o l l.length).1) (g:=(atP o l l.length).2) (GM.at ok l l.length (Nat.le_refl _)).1 o.cores.length (Nat.le_refl _)
  obtain ⟨τ,κ,gi⟩:=hg.gi
  exact ⟨τ,κ,now,gi,hw,by show ((atP o l l.length).2.finTo _).ev.length ≤ 64;rw [he];omega⟩
theorem gath_wf {o:V.Obj} (ho:o.Wf) (l:List V.StepV) (h:gathE o l = 0):(gathX o l).Wf:=by
 obtain ⟨τ,κ,now,gi,hc,hn⟩:=gath_fin l h
 have hm:o.mem.length ≤ 4096:=by
  unfold gathE at h
  cases hok:objOk o with
  | false => rw [if_pos hok] at h;cases h
  | true => exact (objOk_ok hok).mem
 have hev:∀ d ∈ (gathG o l).ev,d.Wf:=fun d hd => by
  obtain ⟨i,hi,rfl⟩:=List.mem_iff_getElem.1 hd
  have he:(gathG o l).ev[i] = (gathG o l).e i:=by simp [GS.e,List.getD,hi]
  rw [he]
  have h1:=evOk_spec (gi.ev i hi)
  have h2:=gi.kd i hi
  refine ⟨by omega,by unfold wf64;omega,?_⟩
  by_cases h4:((gathG o l).e i).kind = 4
  ·have:=h1.2.2.2.2.2.2.1 h4;unfold wf64;omega
  ·have:=h1.2.2.2.2.2.2.2 h4;unfold wf64;omega
 have hfr:∀ v ∈ (gathG o l).frm,wf64 v:=fun v hv => by
  obtain ⟨i,hi,rfl⟩:=List.mem_iff_getElem.1 hv
  have hi2:i < (gathG o l).ev.length:=by rw [← gi.lf];exact hi
  have he:(gathG o l).frm[i] = (gathG o l).f i:=by simp [GS.f,List.getD,hi]
  rw [he]
  unfold wf64
  rcases gi.fr i hi2 with ⟨_,h1⟩|⟨_,⟨h1,_⟩|⟨w,h1,h2,_⟩⟩ <;> omega
 have haf:∀ x ∈ (gathG o l).aft,(∀ v ∈ x,wf64 v)∧x.length * 8 ≤ 140737488351232:=fun x hx => by
  obtain ⟨t,ht,rfl⟩:=List.mem_iff_getElem.1 hx
  have htm:t < o.mem.length:=by rw [← gi.la];exact ht
  have he:(gathG o l).aft[t] = (gathG o l).a t:=by simp [GS.a,List.getD,ht]
  rw [he]
  have h1:=gi.aLen htm
  refine ⟨fun v hv => ?_,by omega⟩
  have:=gi.aft t htm v hv
  unfold wf64;omega
 refine ⟨fun v hv => ho.mem v hv,ho.memlen,hev,by show (gathG o l).ev.length * 40 ≤ _;omega,hfr,by show (gathG o l).frm.length * 8 ≤ _;rw [gi.lf];omega,haf,by show (gathG o l).aft.length * 24 ≤ _;rw [gi.la];omega⟩
theorem gather_frz {o:V.Obj} (ho:o.Wf) (l:List V.StepV):Pure Tryz.prog 4 [o.av,.im 2 .any (l.map V.StepV.av)] (fun r => r = if gathE o l = 0 then .tup [(gathX o l).fz,i64 0] else .tup [noX,i64 (gathE o l)]):=by
 refine pure_of_call ((gather_call ho l [] 0).mono ?_) ?_
 ·rintro r H n ⟨_,_,hr⟩
  by_cases he:gathE o l = 0
  ·rw [if_pos he] at hr ⊢
   obtain ⟨L,rfl,hG,_⟩:=hr
   obtain ⟨d1,h1⟩:=hG.fi
   obtain ⟨d2,h2⟩:=hG.ev
   obtain ⟨d3,h3⟩:=hG.fr
   obtain ⟨d4,h4⟩:=hG.af.row
   have hrow:(qRow L.afs (SI (gathG o l).aft)).map (Abs.frz H 3) = (gathG o l).aft.map imF:=by
    apply List.ext_getElem
    ·rw [List.length_map,hG.af.len,SI_len,List.length_map]
    ·intro i p1 p2
     have hi:i < (gathG o l).aft.length:=by simpa using p2
     obtain ⟨d5,h5⟩:=SI_at hG.af hi
     have e1:=SI_row hG.af hi .any
     have hi2:i < (qRow L.afs (SI (gathG o l).aft)).length:=by rw [hG.af.len,SI_len];exact hi
     have e2:(qRow L.afs (SI (gathG o l).aft))[i] = (qRow L.afs (SI (gathG o l).aft)).getD i .any:=by simp [List.getD,hi2]
     have e3:(gathG o l).aft[i] = (gathG o l).aft.getD i []:=by simp [List.getD,hi]
     rw [List.getElem_map,List.getElem_map,e2,e1,e3,frz_sl h5 (by simp),frz_same _ ((fitL_map _ _).2 fun _ _ => by simp [fitA])]
     rfl
   show AV.tup [AV.agg [Abs.frz H 4 (.sl L.fi _),Abs.frz H 4 (.sl L.ev _),Abs.frz H 4 (.sl L.fr _),Abs.frz H 4 (.sl L.af _)],Abs.frz H 5 (i64 0)] = _
   rw [frz_sl h1 (by simp),frz_sl h2 (by simp),frz_sl h3 (by rw [List.length_map,hG.lf]),frz_sl h4 (by rw [hG.af.len,SI_len,hG.laf]),hrow,frz_sc,frz_same _ ((fitL_map _ _).2 fun _ _ => by simp [fitA]),frz_same _ ((fitL_map _ _).2 fun _ _ => by simp [fitA,Deed.cells,fitL]),frz_same _ ((fitL_map _ _).2 fun _ _ => by simp [fitA])]
   rfl
  ·rw [if_neg he] at hr ⊢
   subst hr
   rfl
 ·split
  ·simp [fitA,fitL]
  ·simp [fitA,fitL]
end Go.Proofs.YtflicfkgbjmffaaGreat
end
section
/- What waits comes to memory at the end: one after the other without a drain is the same. -/
namespace Go.Proofs.YtflicfkgbjmffaaGreat
open Go Go.Abs Go.Proofs V
set_option linter.unusedSimpArgs false
set_option linter.unusedVariables false
def GS.land (g:GS) (k:Int):GS:=g.came (g.e k.toNat).thing.toNat k
def GS.landL (g:GS) (l:List Int):GS:=l.foldl GS.land g
def GS.landTo (g:GS):Nat→GS
 | 0 => g
 | c + 1 => (g.landTo c).landL (g.w c)
structure EqG (g h:GS):Prop where
 ev:g.ev = h.ev
 frm:g.frm = h.frm
 aft:g.aft = h.aft
 last:g.last = h.last
theorem EqG.land {g h:GS} (e:EqG g h) {c:Nat} {k:Int} {r:List Int} (hk:g.w c = k :: r):EqG (g.drain1 c) (h.land k):=by
 have h1:(g.w c).headD 0 = k:=by rw [hk];rfl
 obtain ⟨e1,e2,e3,e4⟩:=e
 unfold GS.drain1 GS.pop GS.came GS.land GS.came GS.e
 simp only [GS.e,GS.a]
 rw [h1]
 exact ⟨e1,e2,by rw [e1,e3],by rw [e1,e4]⟩
theorem drainN_land {c:Nat}:∀ (l:List Int) (g h:GS),g.w c = l→c < g.q.length→EqG g h→EqG (GS.drainN c l.length g) (h.landL l)∧(∀ j,j ≠ c→(GS.drainN c l.length g).w j = g.w j)∧(GS.drainN c l.length g).q.length = g.q.length
 | [],g,h,_,_,e => ⟨e,fun _ _ => rfl,rfl⟩
 | k :: r,g,h,hw,hc,e => by
  have hl:(g.drain1 c).q.length = g.q.length:=by
   unfold GS.drain1 GS.pop GS.came
   simp only [List.length_set]
  have hw2:(g.drain1 c).w c = r:=by rw [drain1_w g c c hc,if_pos rfl,hw];rfl
  obtain ⟨a1,a2,a3⟩:=drainN_land r (g.drain1 c) (h.land k) hw2 (by rw [hl];exact hc) (e.land hw)
  refine ⟨a1,fun j hj => ?_,a3.trans hl⟩
  rw [show GS.drainN c (k :: r).length g = GS.drainN c r.length (g.drain1 c) from rfl,a2 j hj,drain1_w g c j hc,if_neg hj]
theorem finTo_land (g:GS):∀ c,c ≤ g.q.length→EqG (g.finTo c) (g.landTo c)∧(∀ j,c ≤ j→(g.finTo c).w j = g.w j)∧(g.finTo c).q.length = g.q.length
 | 0,_ => ⟨⟨rfl,rfl,rfl,rfl⟩,fun _ _ => rfl,rfl⟩
 | c + 1,hc => by
  obtain ⟨a1,a2,a3⟩:=finTo_land g c (by omega)
  obtain ⟨b1,b2,b3⟩:=drainN_land ((g.finTo c).w c) (g.finTo c) (g.landTo c) rfl (by rw [a3];omega) a1
  rw [a2 c (Nat.le_refl _)] at b1 b2 b3
  have e:g.finTo (c + 1) = GS.drainN c (g.w c).length (g.finTo c):=by
   rw [show g.finTo (c + 1) = (g.finTo c).finC c from rfl]
   unfold GS.finC
   rw [a2 c (Nat.le_refl _)]
  rw [e]
  exact ⟨b1,fun j hj => (b2 j (by omega)).trans (a2 j (by omega)),b3.trans a3⟩
theorem gathX_land (o:V.Obj) (l:List V.StepV) (hq:(atP o l l.length).2.q.length = o.cores.length):gathX o l = ((atP o l l.length).2.landTo o.cores.length).exec o.mem:=by
 obtain ⟨⟨e1,e2,e3,e4⟩,_,_⟩:=finTo_land (atP o l l.length).2 o.cores.length (by omega)
 unfold gathX gathG GS.exec
 rw [e1,e2,e3]
end Go.Proofs.YtflicfkgbjmffaaGreat
end
