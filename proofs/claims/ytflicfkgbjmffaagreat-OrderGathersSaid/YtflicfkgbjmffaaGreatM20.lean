import Derived.Test.YtflicfkgbjmffaaGreatM14
import Derived.Test.YtflicfkgbjmffaaGreatM19
section
/- Executions as plain data; an event by itself. -/
namespace Go.Abs
open Go.RowKit
theorem Go.givesG {α:Type} {g:Option Bool} {x:Option α} {K:α→Prop} {a:α} (h:Gd g→x = some a) (k:Go (K a)):GivesG g x K:=GivesG.of h k
theorem Go.meth0 {P:Program} {t:TypeId} {v:AV} {nm:String} {args:List AV} {H:Hp} {nx:Nat} {K:AV→Hp→Nat→Prop} {f:FuncId} (hm:methT P t nm = some (f,none)) (h:CallW P f (v :: args) H nx K):MethW P t v nm args H nx K:=⟨⟨f,none,hm,h.ok⟩⟩
theorem Go.meth1 {P:Program} {t:TypeId} {v:AV} {nm:String} {args:List AV} {H:Hp} {nx:Nat} {K:AV→Hp→Nat→Prop} {f:FuncId} {e:TypeId} {ag:Bool} {k sz off:Nat} {el r:AV} (hm:methT P t nm = some (f,some (e,ag,k)))
  (hl:lookA H v = some (sz,el,off)) (hr:ldE ag k el sz off = some r) (h:CallW P f (r :: args) H nx K):MethW P t v nm args H nx K:=⟨⟨f,_,hm,sz,el,off,r,hl,hr,h.ok⟩⟩
end Go.Abs
namespace Go.Proofs.YtflicfkgbjmffaaGreat
open Go Go.Abs Go.Proofs
set_option linter.unusedSimpArgs false
set_option linter.unusedVariables false
abbrev i64 (n:Int):AV:=.sc (.int .i64 n)
abbrev u8 (n:Int):AV:=.sc (.int .u8 n)
abbrev bl (b:Bool):AV:=.sc (.bool b)
def wf64 (n:Int):Prop:=-9223372036854775808 ≤ n∧n < 9223372036854775808
structure Deed where
 kind:Int
 thread:Int
 thing:Int
 saw:Int
 put:Int
 deriving Inhabited,DecidableEq
def Deed.cells (i:Deed):List AV:=[u8 i.kind,i64 i.thread,i64 i.thing,i64 i.saw,i64 i.put]
abbrev Deed.av (i:Deed):AV:=.agg i.cells
@[simp] theorem fit_deed (n:Nat) (i:Deed):fitL n i.cells:=by simp [Deed.cells,fitL,fitA]
structure Deed.Wf (i:Deed):Prop where
 kind:0 ≤ i.kind∧i.kind < 256
 thread:wf64 i.thread
 thing:wf64 i.thing
abbrev imI (l:List Int):AV:=.im 1 (i64 0) (l.map i64)
structure Exec where
 first:List Int
 events:List Deed
 frm:List Int
 after:List (List Int)
 deriving Inhabited,DecidableEq
def Exec.cells (x:Exec):List AV:=[imI x.first,.im 5 (Deed.av default) (x.events.map Deed.av),imI x.frm,.im 1 (imI []) (x.after.map imI)]
abbrev Exec.av (x:Exec):AV:=.agg x.cells
@[simp] theorem fit_exec (n:Nat) (x:Exec):fitL n x.cells:=by simp [Exec.cells,fitL,fitA,fitL_map]
structure Exec.Wf (x:Exec):Prop where
 first:∀ v ∈ x.first,wf64 v
 firstlen:x.first.length * 8 ≤ 140737488351232
 events:∀ d ∈ x.events,d.Wf
 eventslen:x.events.length * 40 ≤ 140737488351232
 frm:∀ v ∈ x.frm,wf64 v
 frmlen:x.frm.length * 8 ≤ 140737488351232
 after:∀ l ∈ x.after,(∀ v ∈ l,wf64 v)∧l.length * 8 ≤ 140737488351232
 afterlen:x.after.length * 24 ≤ 140737488351232
def Deed.rd (d:Deed):Bool:=decide (d.kind = 1) || decide (d.kind = 3)
def Deed.wr (d:Deed):Bool:=decide (d.kind = 2) || decide (d.kind = 3)
abbrev Exec.ev (x:Exec) (i:Nat):Deed:=x.events.getD i default
abbrev Exec.fr (x:Exec) (i:Nat):Int:=x.frm.getD i 0
abbrev Exec.fst (x:Exec) (i:Nat):Int:=x.first.getD i 0
abbrev Exec.af (x:Exec) (i:Nat):List Int:=x.after.getD i []
theorem reads_pure (d:Deed):Pure Tryz.prog 83 [d.av] (fun r => r = bl d.rd):=by
 refine Go.pureL lf83 rfl ?_
 repeat' (first|((with_reducible refine Go.red ?_);conv => whnf)|refine aG ?_|exact aCn|with_reducible refine Go.and ?_ ?_|((with_reducible refine Ask.mk ?_);first|exact aAsk|exact aAsk2|(intro h;simp_all [Deed.cells] <;> fail)|(simp_all [Deed.cells] <;> fail))|(apply Go.elem;(·exact aElem))|refine aH ?_|((with_reducible refine Go.bool ?_ ?_) <;> intro hc <;> (try simp only [List.length_map,ne_eq,hcs] at hc) <;> try (exfalso;omega)))
 all_goals simp_all [Deed.rd,hcs]
theorem writes_pure (d:Deed):Pure Tryz.prog 84 [d.av] (fun r => r = bl d.wr):=by
 refine Go.pureL lf84 rfl ?_
 repeat' (first|((with_reducible refine Go.red ?_);conv => whnf)|refine aG ?_|exact aCn|with_reducible refine Go.and ?_ ?_|((with_reducible refine Ask.mk ?_);first|exact aAsk|exact aAsk2|(intro h;simp_all [Deed.cells] <;> fail)|(simp_all [Deed.cells] <;> fail))|(apply Go.elem;(·exact aElem))|refine aH ?_|((with_reducible refine Go.bool ?_ ?_) <;> intro hc <;> (try simp only [List.length_map,ne_eq,hcs] at hc) <;> try (exfalso;omega)))
 all_goals simp_all [Deed.wr,hcs]
end Go.Proofs.YtflicfkgbjmffaaGreat
end
section
/- An event by itself, and what it saw. -/
namespace Go.Proofs.YtflicfkgbjmffaaGreat
open Go Go.Abs Go.Proofs
set_option linter.unusedSimpArgs false
set_option linter.unusedVariables false
def evOk (n:Nat) (d:Deed):Bool:=decide (d.kind ≠ 0) && decide (d.kind < 5) && decide (0 ≤ d.thread) && decide (d.thread < 8) && decide (d.rd = true ∨ d.saw = 0) && decide (d.wr = true ∨ d.put = 0) &&
 (if d.kind = 4 then decide (d.thing = 0) else decide (0 ≤ d.thing) && decide (d.thing < n))
def frOk (x:Exec) (i:Nat):Bool :=
 if (x.ev i).rd = true then (if x.fr i = -1 then decide ((x.ev i).saw = x.fst (x.ev i).thing.toNat)
  else decide (0 ≤ x.fr i) && decide (x.fr i < x.events.length) && decide (x.fr i ≠ i) && (x.ev (x.fr i).toNat).wr && decide ((x.ev (x.fr i).toNat).thing = (x.ev i).thing) && decide ((x.ev (x.fr i).toNat).put = (x.ev i).saw))
 else decide (x.fr i = -1)
theorem getD_mapd {α β:Type} (f:α→β) (l:List α) (i:Nat) (a:α):(l.map f).getD i (f a) = f (l.getD i a):=by
 simp only [List.getD,List.getElem?_map]
 cases l[i]? <;> rfl
theorem ev_get {x:Exec} {i:Nat}:(x.events.map Deed.av).getD i (Deed.av default) = (x.ev i).av:=getD_mapd _ _ _ _
theorem int_get {l:List Int} {i:Nat}:(l.map i64).getD i (i64 0) = i64 (l.getD i 0):=getD_mapd i64 _ _ _
theorem lst_get {l:List (List Int)} {i:Nat}:(l.map imI).getD i (imI []) = imI (l.getD i []):=getD_mapd imI _ _ _
theorem bl_eq {a b:Bool} (h:a = b):AV.sc (.bool a) = bl b:=by rw [h]
theorem def_int:(default:Int) = 0:=rfl
theorem ev_fold (x:Exec) (k:Nat):x.events.getD k default = x.ev k:=rfl
theorem fr_fold (x:Exec) (k:Nat):x.frm.getD k 0 = x.fr k:=rfl
theorem fst_fold (x:Exec) (k:Nat):x.first.getD k 0 = x.fst k:=rfl
theorem rd_kind {d:Deed}:d.rd = true ↔ d.kind = 1 ∨ d.kind = 3:=by simp [Deed.rd]
theorem wr_kind {d:Deed}:d.wr = true ↔ d.kind = 2 ∨ d.kind = 3:=by simp [Deed.wr]
set_option maxHeartbeats 2000000 in
theorem deed_pure (x:Exec) (i:Nat) (hi:i < x.events.length) (hf:i < x.frm.length):Pure Tryz.prog 62 [x.av,i64 i] (fun r => r = bl (evOk x.first.length (x.ev i) && frOk x i)):=by
 refine Go.pureL lf62 rfl ?_
 repeat' (first|((with_reducible refine Go.red ?_);conv => whnf)|refine aG ?_|exact aCn|with_reducible refine Go.and ?_ ?_|((with_reducible refine Ask.mk ?_);first|exact aAsk|exact aAsk2|(intro h;simp_all [Exec.cells,Deed.cells] <;> fail)|(simp_all [Exec.cells,Deed.cells] <;> fail))|(apply Go.elem;(·(first|exact ev_get|exact int_get|exact aElem)))|((with_reducible refine Go.callW (reads_pure _) ?_ ?_);(·exact aFit))|((with_reducible refine Go.callJ (fun _ => reads_pure _) ?_ ?_);(·exact aFit))|((with_reducible refine Go.callE (reads_pure _) ?_ ?_);(·exact aFit))|((with_reducible refine Go.callF (fun _ => reads_pure _) ?_ ?_);(·exact aFit))|((with_reducible refine Go.callW (writes_pure _) ?_ ?_);(·exact aFit))|((with_reducible refine Go.callJ (fun _ => writes_pure _) ?_ ?_);(·exact aFit))|((with_reducible refine Go.callE (writes_pure _) ?_ ?_);(·exact aFit))|((with_reducible refine Go.callF (fun _ => writes_pure _) ?_ ?_);(·exact aFit))|refine aH ?_|((with_reducible refine Go.bool ?_ ?_) <;> intro hc <;> (try simp only [List.length_map,ne_eq,hcs] at hc) <;> try (exfalso;omega)))
 all_goals
  refine bl_eq ?_
  have hr:=@rd_kind (x.ev i)
  have hw:=@wr_kind (x.ev i)
  rw [Bool.eq_iff_iff]
  simp only [evOk,frOk,ev_fold,fr_fold,fst_fold,Int.toNat_natCast,def_int,Bool.and_eq_true,decide_eq_true_eq,Bool.ite_eq_true_distrib,Bool.false_eq_true] at *
  grind
end Go.Proofs.YtflicfkgbjmffaaGreat
end
section
/- The lists of writers. -/
namespace Go.Proofs.YtflicfkgbjmffaaGreat
open Go Go.Abs Go.Proofs
set_option linter.unusedSimpArgs false
set_option linter.unusedVariables false
def seenE (P:List Int):List AV:=P.map fun v => ent (.int .i64 v) (i64 1)
theorem mfind_seen (k:Int):∀ (P:List Int) (i:Nat),k ∉ P→mfind false (.int .i64 k) (seenE P) i = some none
 | [],_,_ => rfl
 | v :: P,i,h => by
  simp only [List.mem_cons,not_or] at h
  have ih:=mfind_seen k P (i + 1) h.2
  simp only [seenE,List.map_cons,mfind,ent,entA,keq,if_true,h.1,decide_false] at ih ⊢
  exact ih
theorem mfind_seen' (k:Int):∀ (P:List Int) (i:Nat),k ∈ P→∃ j,mfind false (.int .i64 k) (seenE P) i = some (some (j,i64 1))
 | v :: P,i,h => by
  by_cases hv:k = v
  ·subst hv
   exact ⟨i,by simp [seenE,mfind,ent,entA,keq]⟩
  ·obtain ⟨j,hj⟩:=mfind_seen' k P (i + 1) (by simpa [hv] using h)
   refine ⟨j,?_⟩
   simp only [seenE,List.map_cons,mfind,ent,entA,keq,if_true,hv,decide_false] at hj ⊢
   exact hj
theorem mget_seen (P:List Int) (k:Int):mget false (.int .i64 k) (seenE P) (i64 0) = some (i64 (if k ∈ P then 1 else 0),decide (k ∈ P)):=by
 unfold mget
 by_cases h:k ∈ P
 ·obtain ⟨j,hj⟩:=mfind_seen' k P 0 h
  rw [hj];simp [h]
 ·rw [mfind_seen k P 0 h];simp [h]
theorem mput_seen (P:List Int) (k:Int) (h:k ∉ P):mput false (.int .i64 k) (seenE P) (i64 1) = some (seenE (P ++ [k])):=by
 unfold mput
 rw [mfind_seen k P 0 h]
 simp [seenE,ent]
def afOk (x:Exec) (t:Nat) (k:Int):Bool:=decide (0 ≤ k) && decide (k < x.events.length) && (x.ev k.toNat).wr && decide ((x.ev k.toNat).thing = t)
def pre (x:Exec) (t j:Nat):List Int:=(x.after.take t).flatten ++ (x.after.getD t []).take j
def Exec.wrs (x:Exec):Nat:=x.events.countP Deed.wr
def aftOk (x:Exec):Prop:=(∀ t,t < x.after.length→∀ k ∈ (x.after.getD t []),afOk x t k = true)∧x.after.flatten.Nodup∧x.after.flatten.length = x.wrs
instance (x:Exec):Decidable (aftOk x):=by
 unfold aftOk
 exact inferInstance
theorem mget_new {P:List Int} {k:Int} (h:k ∉ P):mget false (.int .i64 k) (seenE P) (i64 0) = some (i64 0,false):=by
 rw [mget_seen];simp [h]
theorem flatten_take_succ {l:List (List Int)} {t:Nat} (h:t < l.length):(l.take (t + 1)).flatten = (l.take t).flatten ++ l.getD t []:=by
 rw [List.take_succ_eq_append_getElem h,List.flatten_append]
 simp [List.getD,h]
theorem getD_el {α:Type} {l:List α} {j:Nat} (d:α) (h:j < l.length):l[j] = l.getD j d:=by simp [List.getD,h]
theorem pre_next {x:Exec} {t:Nat} (h:t < x.after.length):pre x (t + 1) 0 = pre x t (x.after.getD t []).length:=by
 simp [pre,flatten_take_succ h]
theorem pre_succ {x:Exec} {t j:Nat} (h:j < (x.after.getD t []).length):pre x t (j + 1) = pre x t j ++ [(x.after.getD t []).getD j 0]:=by
 simp only [pre,List.append_assoc]
 rw [List.take_succ_eq_append_getElem h,getD_el 0 h]
theorem nodup_lt {n:Nat}:∀ {l:List Int},l.Nodup→(∀ k ∈ l,0 ≤ k∧k < n)→l.length ≤ n:=by
 induction n with
 | zero =>
  intro l _ h
  cases l with
  | nil => simp
  | cons a l => have:=h a (by simp);omega
 | succ n ih =>
  intro l hn h
  by_cases hm:(n:Int) ∈ l
  ·have h1:(l.erase n).length + 1 = l.length:=by
    rw [List.length_erase_of_mem hm]
    have:=List.length_pos_of_mem hm
    omega
   have h2:=ih (l:=l.erase n) (hn.erase _) (fun k hk => by
    have:=(List.Nodup.mem_erase_iff hn).1 hk
    have:=h k this.2
    omega)
   omega
  ·have:=ih hn (fun k hk => by
    have h3:=h k hk
    have:k ≠ n:=fun e => hm (e ▸ hk)
    omega)
   omega
theorem pre_lt {x:Exec} {t j:Nat} (hall:∀ t',t' < t→∀ k ∈ x.after.getD t' [],afOk x t' k = true) (hj:∀ k ∈ (x.after.getD t []).take j,afOk x t k = true) (hn:(pre x t j).Nodup):(pre x t j).length ≤ x.events.length:=by
 refine nodup_lt hn fun k hk => ?_
 have:∃ t',afOk x t' k = true:=by
  simp only [pre,List.mem_append,List.mem_flatten] at hk
  rcases hk with ⟨l,h1,h2⟩|hk
  ·obtain ⟨i,hi,rfl⟩:=List.mem_take_iff_getElem.1 h1
   refine ⟨i,hall i (by omega) k ?_⟩
   simp only [List.getD]
   rw [List.getElem?_eq_getElem (by omega)]
   exact h2
  ·exact ⟨t,hj k hk⟩
 obtain ⟨t',h⟩:=this
 simp only [afOk,Bool.and_eq_true,decide_eq_true_eq] at h
 omega
theorem lt_ite {p:Prop} [Decidable p]:((0:Int) < if p then 1 else 0) ↔ p:=by by_cases h:p <;> simp [h]
theorem flatten_split {x:Exec} {t j:Nat} (ht:t < x.after.length):x.after.flatten = pre x t j ++ ((x.after.getD t []).drop j ++ (x.after.drop (t + 1)).flatten):=by
 have h1:x.after = x.after.take t ++ (x.after.getD t []) :: x.after.drop (t + 1):=by
  have:(x.after.getD t []) = x.after[t]:=by simp [List.getD,ht]
  rw [this,List.getElem_cons_drop]
  exact (List.take_append_drop t x.after).symm
 conv => lhs;rw [h1]
 simp only [List.flatten_append,List.flatten_cons,pre,List.append_assoc]
 rw [← List.append_assoc ((x.after.getD t []).take j),List.take_append_drop]
theorem getD_mem' {α:Type} {l:List α} {j:Nat} (d:α) (h:j < l.length):l.getD j d ∈ l:=by
 simp only [List.getD,List.getElem?_eq_getElem h,Option.getD_some];exact List.getElem_mem h
theorem not_aft {x:Exec} {t j:Nat} (ht:t < x.after.length) (hj:j < (x.after.getD t []).length) (h:afOk x t ((x.after.getD t []).getD j 0) = false ∨ (x.after.getD t []).getD j 0 ∈ pre x t j):¬ aftOk x:=by
 rintro ⟨h1,h2,_⟩
 rcases h with h|h
 ·have:=h1 t ht _ (getD_mem' 0 hj)
  rw [this] at h;cases h
 ·rw [flatten_split (j:=j) ht,List.nodup_append] at h2
  refine h2.2.2 _ h _ ?_ rfl
  rw [List.drop_eq_getElem_cons hj,getD_el 0 hj,List.cons_append]
  exact List.mem_cons_self
theorem mem_take_succ {l:List Int} {j:Nat} (hj:j < l.length) {k:Int}:k ∈ l.take (j + 1) ↔ k ∈ l.take j ∨ k = l.getD j 0:=by
 rw [List.take_succ_eq_append_getElem hj,List.mem_append,List.mem_singleton,getD_el 0 hj]
theorem wrs_take {x:Exec} {i:Nat} (hi:i < x.events.length):(x.events.take (i + 1)).countP Deed.wr = (x.events.take i).countP Deed.wr + if (x.ev i).wr = true then 1 else 0:=by
 rw [List.take_succ_eq_append_getElem hi,List.countP_append,List.countP_cons,List.countP_nil,Exec.ev,List.getD_eq_getElem?_getD,List.getElem?_eq_getElem hi,Option.getD_some]
 simp
set_option maxHeartbeats 4000000 in
theorem after_pure (x:Exec) (hx:x.Wf) (hn:x.events.length ≤ 64):Pure Tryz.prog 63 [x.av] (fun r => r = bl (decide (aftOk x))):=by
 refine Go.pureL lf63 rfl ?_
 have ha:=hx.afterlen
 have hal:∀ t,t < x.after.length→(x.after.getD t []).length * 8 ≤ 140737488351232:=fun t ht => (hx.after (x.after.getD t []) (by simp only [List.getD,List.getElem?_eq_getElem ht,Option.getD_some];exact List.getElem_mem ht)).2
 repeat' (first|((with_reducible refine Go.red ?_);conv => whnf)|refine aG ?_|exact aCn|with_reducible refine Go.and ?_ ?_|((with_reducible refine Ask.mk ?_);first|exact aAsk|exact aAsk2|(intro h;simp_all [Exec.cells,Deed.cells] <;> fail)|(simp_all [Exec.cells,Deed.cells] <;> fail))|(apply Go.elem;(·(first|exact ev_get|exact int_get|exact lst_get|exact aElem)))|((with_reducible refine Go.callW (reads_pure _) ?_ ?_);(·exact aFit))|((with_reducible refine Go.callJ (fun _ => reads_pure _) ?_ ?_);(·exact aFit))|((with_reducible refine Go.callE (reads_pure _) ?_ ?_);(·exact aFit))|((with_reducible refine Go.callF (fun _ => reads_pure _) ?_ ?_);(·exact aFit))|((with_reducible refine Go.callW (writes_pure _) ?_ ?_);(·exact aFit))|((with_reducible refine Go.callJ (fun _ => writes_pure _) ?_ ?_);(·exact aFit))|((with_reducible refine Go.callE (writes_pure _) ?_ ?_);(·exact aFit))|((with_reducible refine Go.callF (fun _ => writes_pure _) ?_ ?_);(·exact aFit))|refine aH ?_|((with_reducible refine Go.bool ?_ ?_) <;> intro hc <;> (try simp only [List.length_map,ne_eq,hcs] at hc) <;> try (exfalso;omega)))
 refine Go.loop (fun t:Nat => [(1,.pt 0 1 0 0),(2,bl false),(3,i64 (pre x t 0).length),(4,.mp 3),(13,.im 1 (imI []) (x.after.map imI)),(14,i64 x.after.length),(15,i64 t)])
  (fun t H n => t ≤ x.after.length∧4 ≤ n∧getH H 0 = some (.row 31 4 .any [x.av])∧getH H 3 = some (.row 3 0 .any (mapA (seenE (pre x t 0))))∧(∀ t',t' < t→∀ k ∈ x.after.getD t' [],afOk x t' k = true)∧(pre x t 0).Nodup) (fun t => x.after.length - t) 0 aLess ⟨Nat.zero_le _,aNx,aRow,aRow,fun _ h => by omega,by simp [pre]⟩ ?_
 rintro t H n ⟨ht,hn4,r0,r3,hall,hnd⟩
 repeat' (first|((with_reducible refine Go.red ?_);conv => whnf)|refine aG ?_|exact aCn|with_reducible refine Go.and ?_ ?_|((with_reducible refine Ask.mk ?_);first|exact aAsk|exact aAsk2|(intro h;simp_all [Exec.cells,Deed.cells] <;> fail)|(simp_all [Exec.cells,Deed.cells] <;> fail))|(apply Go.elem;(·(first|exact ev_get|exact int_get|exact lst_get|exact aElem)))|((with_reducible refine Go.callW (reads_pure _) ?_ ?_);(·exact aFit))|((with_reducible refine Go.callJ (fun _ => reads_pure _) ?_ ?_);(·exact aFit))|((with_reducible refine Go.callE (reads_pure _) ?_ ?_);(·exact aFit))|((with_reducible refine Go.callF (fun _ => reads_pure _) ?_ ?_);(·exact aFit))|((with_reducible refine Go.callW (writes_pure _) ?_ ?_);(·exact aFit))|((with_reducible refine Go.callJ (fun _ => writes_pure _) ?_ ?_);(·exact aFit))|((with_reducible refine Go.callE (writes_pure _) ?_ ?_);(·exact aFit))|((with_reducible refine Go.callF (fun _ => writes_pure _) ?_ ?_);(·exact aFit))|refine aH ?_|((with_reducible refine Go.bool ?_ ?_) <;> intro hc <;> (try simp only [List.length_map,ne_eq,hcs] at hc) <;> try (exfalso;omega)))
 ·have hlt:=hal t (by omega)
  refine Go.loop (fun j:Nat => [(1,.pt 0 1 0 0),(2,bl false),(3,i64 (pre x t j).length),(4,.mp 3),(5,i64 t),(13,.im 1 (imI []) (x.after.map imI)),(14,i64 x.after.length),(15,i64 t),(20,imI (x.after.getD t [])),(21,i64 (x.after.getD t []).length),(22,i64 j)])
   (fun j H n => j ≤ (x.after.getD t []).length∧4 ≤ n∧getH H 0 = some (.row 31 4 .any [x.av])∧getH H 3 = some (.row 3 0 .any (mapA (seenE (pre x t j))))∧(∀ k ∈ (x.after.getD t []).take j,afOk x t k = true)∧(pre x t j).Nodup) (fun j => (x.after.getD t []).length - j) 0 aLess ⟨Nat.zero_le _,aNx,aRow,aRow,by simp,hnd⟩ ?_
  rintro j H n ⟨hj,hn5,r0,r3,hjall,hjnd⟩
  have hcount:=pre_lt hall hjall hjnd
  repeat' (first|((with_reducible refine Go.red ?_);conv => whnf)|refine aG ?_|exact aCn|with_reducible refine Go.and ?_ ?_|((with_reducible refine Ask.mk ?_);first|exact aAsk|exact aAsk2|(intro h;simp_all [Exec.cells,Deed.cells] <;> fail)|(simp_all [Exec.cells,Deed.cells] <;> fail))|(apply Go.elem;(·(first|exact ev_get|exact int_get|exact lst_get|exact aElem)))|((with_reducible refine Go.callW (reads_pure _) ?_ ?_);(·exact aFit))|((with_reducible refine Go.callJ (fun _ => reads_pure _) ?_ ?_);(·exact aFit))|((with_reducible refine Go.callE (reads_pure _) ?_ ?_);(·exact aFit))|((with_reducible refine Go.callF (fun _ => reads_pure _) ?_ ?_);(·exact aFit))|((with_reducible refine Go.callW (writes_pure _) ?_ ?_);(·exact aFit))|((with_reducible refine Go.callJ (fun _ => writes_pure _) ?_ ?_);(·exact aFit))|((with_reducible refine Go.callE (writes_pure _) ?_ ?_);(·exact aFit))|((with_reducible refine Go.callF (fun _ => writes_pure _) ?_ ?_);(·exact aFit))|(apply Go.givesG (g:=some _);(·exact fun _ => mget_seen _ _))|refine aH ?_|((with_reducible refine Go.bool ?_ ?_) <;> intro hc <;> (try simp only [List.length_map,ne_eq,hcs] at hc) <;> try (exfalso;omega)))
  ·refine bl_eq (Eq.symm (decide_eq_false (not_aft (t:=t) (j:=j) (by omega) (by omega) ?_)))
   rw [lt_ite] at hc
   by_cases hm:(x.after.getD t []).getD j 0 ∈ pre x t j
   ·exact .inr hm
   ·left
    simp only [hm,or_false] at hc
    rw [Bool.eq_false_iff]
    simp only [afOk,ne_eq,Bool.and_eq_true,decide_eq_true_eq]
    rintro ⟨⟨⟨h1,h2⟩,h3⟩,h4⟩
    rw [h3] at hc
    simp only [Bool.true_eq_false,or_false] at hc
    omega
  ·rw [lt_ite] at hc
   have hnew:(x.after.getD t []).getD j 0 ∉ pre x t j:=fun hm => hc.1 (.inl (.inr hm))
   have hok:afOk x t ((x.after.getD t []).getD j 0) = true:=by
    simp only [afOk,Bool.and_eq_true,decide_eq_true_eq]
    refine ⟨⟨⟨by have:=fun h => hc.1 (.inl (.inl (.inl h)));omega,by have:=fun h => hc.1 (.inl (.inl (.inr h)));omega⟩,?_⟩,hc.2⟩
    have:=fun h => hc.1 (.inr h)
    simpa using this
   repeat' (first|((with_reducible refine Go.red ?_);conv => whnf)|refine aG ?_|exact aCn|with_reducible refine Go.and ?_ ?_|((with_reducible refine Ask.mk ?_);first|exact aAsk|exact aAsk2|(intro h;simp_all [Exec.cells,Deed.cells] <;> fail)|(simp_all [Exec.cells,Deed.cells] <;> fail))|(apply Go.elem;(·(first|exact ev_get|exact int_get|exact lst_get|exact aElem)))|((with_reducible refine Go.callW (reads_pure _) ?_ ?_);(·exact aFit))|((with_reducible refine Go.callJ (fun _ => reads_pure _) ?_ ?_);(·exact aFit))|((with_reducible refine Go.callE (reads_pure _) ?_ ?_);(·exact aFit))|((with_reducible refine Go.callF (fun _ => reads_pure _) ?_ ?_);(·exact aFit))|((with_reducible refine Go.callW (writes_pure _) ?_ ?_);(·exact aFit))|((with_reducible refine Go.callJ (fun _ => writes_pure _) ?_ ?_);(·exact aFit))|((with_reducible refine Go.callE (writes_pure _) ?_ ?_);(·exact aFit))|((with_reducible refine Go.callF (fun _ => writes_pure _) ?_ ?_);(·exact aFit))|(apply Go.givesG (g:=none);(·exact fun _ => mget_new hnew))|(apply Go.givesG (g:=none);(·exact fun _ => mput_seen _ _ hnew))|refine aH ?_|((with_reducible refine Go.bool ?_ ?_) <;> intro hc <;> (try simp only [List.length_map,ne_eq,hcs] at hc) <;> try (exfalso;omega)))
   have e:=pre_succ (x:=x) (t:=t) (j:=j) (by omega)
   have el:(pre x t (j + 1)).length = (pre x t j).length + 1:=by rw [e];simp
   refine ⟨j + 1,by omega,aLess,by omega,aNx,aRow,?_,?_,?_⟩
   ·rw [e];exact aRow
   ·intro k hk
    rcases (mem_take_succ (by omega)).1 hk with h|rfl
    ·exact hjall k h
    ·exact hok
   ·rw [e,List.nodup_append]
    exact ⟨hjnd,by simp,fun a ha b hb => by simp at hb;subst hb;exact fun e => hnew (by simpa using e ▸ ha)⟩
  ·have hjl:j = (x.after.getD t []).length:=by omega
   subst hjl
   have e:=pre_next (x:=x) (t:=t) (by omega)
   refine ⟨t + 1,by omega,?_,by omega,aNx,aRow,?_,?_,?_⟩
   ·rw [e];exact aLess
   ·rw [e];exact aRow
   ·intro t' ht' k hk
    by_cases h:t' = t
    ·subst h;rw [List.take_length] at hjall;exact hjall k hk
    ·exact hall t' (by omega) k hk
   ·rw [e];exact hjnd
 ·have htl:t = x.after.length:=by omega
  subst htl
  have hpre:pre x x.after.length 0 = x.after.flatten:=by simp [pre]
  rw [hpre] at hnd r3 ⊢
  have hle:x.after.flatten.length ≤ x.events.length:=by
   have:=pre_lt (x:=x) (t:=x.after.length) (j:=0) hall (by simp) (by rw [hpre];exact hnd)
   rw [hpre] at this;exact this
  refine Go.loop (fun i:Nat => [(3,i64 ((x.after.flatten.length:Int) - ((x.events.take i).countP Deed.wr:Nat))),(69,.im 5 (Deed.av default) (x.events.map Deed.av)),(70,i64 x.events.length),(71,i64 i)])
   (fun i H n => i ≤ x.events.length∧(x.events.take i).countP Deed.wr ≤ i) (fun i => x.events.length - i) 0 aLess ⟨Nat.zero_le _,by simp⟩ ?_
  rintro i H n ⟨hi,hci⟩
  repeat' (first|((with_reducible refine Go.red ?_);conv => whnf)|refine aG ?_|exact aCn|with_reducible refine Go.and ?_ ?_|((with_reducible refine Ask.mk ?_);first|exact aAsk|exact aAsk2|(intro h;simp_all [Exec.cells,Deed.cells] <;> fail)|(simp_all [Exec.cells,Deed.cells] <;> fail))|(apply Go.elem;(·(first|exact ev_get|exact int_get|exact lst_get|exact aElem)))|((with_reducible refine Go.callW (reads_pure _) ?_ ?_);(·exact aFit))|((with_reducible refine Go.callJ (fun _ => reads_pure _) ?_ ?_);(·exact aFit))|((with_reducible refine Go.callE (reads_pure _) ?_ ?_);(·exact aFit))|((with_reducible refine Go.callF (fun _ => reads_pure _) ?_ ?_);(·exact aFit))|((with_reducible refine Go.callW (writes_pure _) ?_ ?_);(·exact aFit))|((with_reducible refine Go.callJ (fun _ => writes_pure _) ?_ ?_);(·exact aFit))|((with_reducible refine Go.callE (writes_pure _) ?_ ?_);(·exact aFit))|((with_reducible refine Go.callF (fun _ => writes_pure _) ?_ ?_);(·exact aFit))|refine aH ?_|((with_reducible refine Go.bool ?_ ?_) <;> intro hc <;> (try simp only [List.length_map,ne_eq,hcs] at hc) <;> try (exfalso;omega)))
  ·have e:=wrs_take (x:=x) (i:=i) (by omega)
   rw [if_pos (by simpa using hc)] at e
   exact ⟨i + 1,by omega,aLess,by omega,by omega⟩
  ·have e:=wrs_take (x:=x) (i:=i) (by omega)
   rw [if_neg (by simpa using hc)] at e
   exact ⟨i + 1,by omega,aLess,by omega,by omega⟩
  ·have hil:i = x.events.length:=by omega
   subst hil
   rw [List.take_length] at *
   refine bl_eq ?_
   rw [decide_eq_decide]
   simp only [aftOk,Exec.wrs]
   constructor
   ·intro h;exact ⟨fun t' ht' k hk => hall t' ht' k hk,hnd,by omega⟩
   ·rintro ⟨_,_,h⟩;omega
end Go.Proofs.YtflicfkgbjmffaaGreat
end
section
/- Arrows from one event to another. -/
namespace Go.Proofs.YtflicfkgbjmffaaGreat
open Go Go.Abs Go.Proofs
set_option linter.unusedSimpArgs false
set_option linter.unusedVariables false
def posI:List Int→Int→Nat→Int
 | [],_,_ => -1
 | a :: l,k,i => if k = a then i else posI l k (i + 1)
theorem posI_drop {l:List Int} {k:Int} {i:Nat} (h:i < l.length):posI (l.drop i) k i = if k = l.getD i 0 then (i:Int) else posI (l.drop (i + 1)) k (i + 1):=by
 rw [List.drop_eq_getElem_cons h,posI,getD_el 0 h]
theorem index_pure (l:List Int) (k:Int) (hl:l.length * 8 ≤ 140737488351232):Pure Tryz.prog 97 [imI l,i64 k] (fun r => r = i64 (posI l k 0)):=by
 refine Go.pureL lf97 rfl ?_
 repeat' (first|((with_reducible refine Go.red ?_);conv => whnf)|refine aG ?_|exact aC|with_reducible refine Go.and ?_ ?_|(apply Go.elem;(·(first|exact int_get|exact aElem)))|refine aH ?_|((with_reducible refine Go.bool ?_ ?_) <;> intro hc <;> (try simp only [List.length_map,ne_eq,hcs] at hc) <;> try (exfalso;omega)))
 refine Go.loop (fun i:Nat => [(0,imI l),(1,i64 k),(7,i64 l.length),(8,i64 i)]) (fun i _ _ => i ≤ l.length∧posI l k 0 = posI (l.drop i) k i) (fun i => l.length - i) 0 aLess ⟨Nat.zero_le _,by simp⟩ ?_
 rintro i H nx ⟨hi,he⟩
 repeat' (first|((with_reducible refine Go.red ?_);conv => whnf)|refine aG ?_|exact aC|with_reducible refine Go.and ?_ ?_|(apply Go.elem;(·(first|exact int_get|exact aElem)))|refine aH ?_|((with_reducible refine Go.bool ?_ ?_) <;> intro hc <;> (try simp only [List.length_map,ne_eq,hcs] at hc) <;> try (exfalso;omega)))
 ·rw [he,posI_drop (by omega),if_pos (by simpa using hc)]
 ·refine ⟨i + 1,by omega,aLess,by omega,?_⟩
  rw [he,posI_drop (by omega),if_neg (by simpa using hc)]
 ·have:i = l.length:=by omega
  subst this
  rw [he];simp [posI]
def place (x:Exec) (k:Nat):Int:=posI (x.after.getD (x.ev k).thing.toNat []) k 0
theorem af_len {x:Exec} (hx:x.Wf) (t:Nat):(x.after.getD t []).length * 8 ≤ 140737488351232:=by
 by_cases ht:t < x.after.length
 ·exact (hx.after _ (getD_mem' [] ht)).2
 ·simp [List.getD,List.getElem?_eq_none (by omega:x.after.length ≤ t)]
theorem place_pure (x:Exec) (hx:x.Wf) (k:Nat) (hk:k < x.events.length) (h0:0 ≤ (x.ev k).thing) (h1:(x.ev k).thing < x.after.length):Pure Tryz.prog 85 [x.av,i64 k] (fun r => r = i64 (place x k)):=by
 refine Go.pureL lf85 rfl ?_
 repeat' (first|((with_reducible refine Go.red ?_);conv => whnf)|refine aG ?_|exact aCn|with_reducible refine Go.and ?_ ?_|((with_reducible refine Ask.mk ?_);first|exact aAsk|(simp only [Int.toNat_natCast,List.length_map];omega)|exact aAsk2|(intro h;simp_all [Exec.cells,Deed.cells] <;> fail)|(simp_all [Exec.cells,Deed.cells] <;> fail))|(apply Go.elem;(·(first|exact ev_get|exact int_get|exact lst_get|exact aElem)))|((with_reducible refine Go.callW (index_pure _ _ (af_len hx _)) ?_ ?_);(·exact aFit))|((with_reducible refine Go.callJ (fun _ => index_pure _ _ (af_len hx _)) ?_ ?_);(·exact aFit))|((with_reducible refine Go.callE (index_pure _ _ (af_len hx _)) ?_ ?_);(·exact aFit))|((with_reducible refine Go.callF (fun _ => index_pure _ _ (af_len hx _)) ?_ ?_);(·exact aFit))|refine aH ?_|((with_reducible refine Go.bool ?_ ?_) <;> intro hc <;> (try simp only [List.length_map,ne_eq,hcs] at hc) <;> try (exfalso;omega)))
 simp [place]
structure Fine (x:Exec):Prop where
 wf:x.Wf
 few:x.events.length ≤ 64
 frl:x.frm.length = x.events.length
 afl:x.after.length = x.first.length
 ev:∀ i,i < x.events.length→evOk x.first.length (x.ev i) = true
 fr:∀ i,i < x.events.length→frOk x i = true
 af:aftOk x
theorem Fine.thing {x:Exec} (h:Fine x) {i:Nat} (hi:i < x.events.length) (hk:(x.ev i).kind ≠ 4):0 ≤ (x.ev i).thing∧(x.ev i).thing < x.after.length:=by
 have:=h.ev i hi
 simp only [evOk,Bool.and_eq_true,decide_eq_true_eq,hk,if_false] at this
 rw [h.afl]
 exact this.2
theorem Fine.thingW {x:Exec} (h:Fine x) {i:Nat} (hi:i < x.events.length) (hk:(x.ev i).wr = true):0 ≤ (x.ev i).thing∧(x.ev i).thing < x.after.length:=h.thing hi (by have:=wr_kind.1 hk;omega)
theorem Fine.from {x:Exec} (h:Fine x) {i:Nat} (hi:i < x.events.length) (hk:(x.ev i).rd = true) (h0:¬ x.fr i < 0):0 ≤ x.fr i∧x.fr i < x.events.length∧x.fr i ≠ i∧(x.ev (x.fr i).toNat).wr = true∧(x.ev (x.fr i).toNat).thing = (x.ev i).thing∧(x.ev (x.fr i).toNat).put = (x.ev i).saw:=by
 have:=h.fr i hi
 simp only [frOk,hk,if_true] at this
 rw [if_neg (by omega)] at this
 simp only [Bool.and_eq_true,decide_eq_true_eq] at this
 obtain ⟨⟨⟨⟨⟨h1,h2⟩,h3⟩,h4⟩,h5⟩,h6⟩:=this
 exact ⟨h1,h2,h3,h4,h5,h6⟩
def isB (x:Exec) (kind:Int) (a b:Nat):Bool :=
 if kind = 0 then decide ((x.ev a).thread = (x.ev b).thread) && decide (a < b)
 else if kind = 1 then (x.ev b).rd && decide (x.fr b = a)
 else if kind = 2 then (x.ev a).wr && (x.ev b).wr && decide ((x.ev a).thing = (x.ev b).thing) && decide (place x a < place x b)
 else (x.ev a).rd && (x.ev b).wr && decide ((x.ev a).thing = (x.ev b).thing) && decide (a ≠ b) && (decide (x.fr a < 0) || decide (place x (x.fr a).toNat < place x b))
theorem place_pureI (x:Exec) (hx:x.Wf) (k:Int) (h:0 ≤ k) (hk:k < x.events.length) (h0:0 ≤ (x.ev k.toNat).thing) (h1:(x.ev k.toNat).thing < x.after.length):Pure Tryz.prog 85 [x.av,i64 k] (fun r => r = i64 (place x k.toNat)):=by
 have e:k = (k.toNat:Int):=by omega
 have:=place_pure x hx k.toNat (by omega) h0 h1
 rw [← e] at this
 exact this
set_option maxHeartbeats 4000000 in
theorem is_pure (x:Exec) (h:Fine x) (kind:Int) (hk:0 ≤ kind∧kind < 4) (a b:Nat) (ha:a < x.events.length) (hb:b < x.events.length):Pure Tryz.prog 64 [x.av,u8 kind,i64 a,i64 b] (fun r => r = bl (isB x kind a b)):=by
 refine Go.pureL lf64 rfl ?_
 have hx:=h.wf
 have hfl:=h.frl
 have p2:∀ k:Nat,(k = a ∨ k = b)→(if (if (x.ev a).wr = true then (x.ev b).wr else false) = true then decide ((x.ev a).thing = (x.ev b).thing) else false) = true→Pure Tryz.prog 85 [x.av,i64 k] (fun r => r = i64 (place x k)):=by
  intro k hk hg
  have hg:((x.ev a).wr = true∧(x.ev b).wr = true)∧(x.ev a).thing = (x.ev b).thing:=by
   revert hg
   cases (x.ev a).wr <;> cases (x.ev b).wr <;> simp
  rcases hk with rfl|rfl
  ·exact place_pure x hx _ ha (h.thingW ha hg.1.1).1 (h.thingW ha hg.1.1).2
  ·exact place_pure x hx _ hb (h.thingW hb hg.1.2).1 (h.thingW hb hg.1.2).2
 repeat' (first|((with_reducible refine Go.red ?_);conv => whnf)|refine aG ?_|exact aCn|with_reducible refine Go.and ?_ ?_|((with_reducible refine Ask.mk ?_);first|exact aAsk|exact aAsk2|(intro h;simp_all [Exec.cells,Deed.cells] <;> fail)|(simp_all [Exec.cells,Deed.cells] <;> fail))|(apply Go.elem;(·(first|exact ev_get|exact int_get|exact lst_get|exact aElem)))|((with_reducible refine Go.callW (reads_pure _) ?_ ?_);(·exact aFit))|((with_reducible refine Go.callJ (fun _ => reads_pure _) ?_ ?_);(·exact aFit))|((with_reducible refine Go.callE (reads_pure _) ?_ ?_);(·exact aFit))|((with_reducible refine Go.callF (fun _ => reads_pure _) ?_ ?_);(·exact aFit))|((with_reducible refine Go.callW (writes_pure _) ?_ ?_);(·exact aFit))|((with_reducible refine Go.callJ (fun _ => writes_pure _) ?_ ?_);(·exact aFit))|((with_reducible refine Go.callE (writes_pure _) ?_ ?_);(·exact aFit))|((with_reducible refine Go.callF (fun _ => writes_pure _) ?_ ?_);(·exact aFit))|((refine Go.callF (fun hg => p2 a (.inl rfl) hg) ?_ ?_);(·exact aFit))|((refine Go.callF (fun hg => p2 b (.inr rfl) hg) ?_ ?_);(·exact aFit))|((refine Go.callJ (fun hg => p2 a (.inl rfl) hg) ?_ ?_);(·exact aFit))|((refine Go.callJ (fun hg => p2 b (.inr rfl) hg) ?_ ?_);(·exact aFit))|refine aH ?_|((with_reducible refine Go.bool ?_ ?_) <;> intro hc <;> (try simp only [List.length_map,ne_eq,hcs] at hc) <;> try (exfalso;omega)))
 all_goals try (
  refine bl_eq ?_
  rw [Bool.eq_iff_iff]
  simp only [isB,ev_fold,fr_fold,Int.toNat_natCast,Bool.and_eq_true,Bool.or_eq_true,decide_eq_true_eq,Bool.ite_eq_true_distrib,Bool.false_eq_true] at hc ⊢
  grind)
 have hrd:(x.ev a).rd = true:=by cases hh:(x.ev a).rd <;> simp_all
 have hwr:(x.ev b).wr = true:=by cases hh:(x.ev b).wr <;> simp_all
 have hth:(x.ev a).thing = (x.ev b).thing:=by
  rcases Decidable.em ((x.ev a).thing = (x.ev b).thing) with h|h
  ·exact h
  ·exact absurd (.inr h) hc.1
 have hB:=place_pure x hx b hb (h.thingW hb hwr).1 (h.thingW hb hwr).2
 have hA:(!decide (x.fr a < 0)) = true→Pure Tryz.prog 85 [x.av,i64 (x.fr a)] (fun r => r = i64 (place x (x.fr a).toNat)):=by
  intro hg
  simp only [Bool.not_eq_true',decide_eq_false_iff_not] at hg
  obtain ⟨h1,h2,_,h3,h4,_⟩:=h.from ha hrd hg
  have h5:=h.thingW (i:=(x.fr a).toNat) (by omega) h3
  exact place_pureI x hx _ h1 h2 h5.1 h5.2
 repeat' (first|((with_reducible refine Go.red ?_);conv => whnf)|refine aG ?_|exact aCn|with_reducible refine Go.and ?_ ?_|((with_reducible refine Ask.mk ?_);first|exact aAsk|exact aAsk2|(intro h;simp_all [Exec.cells,Deed.cells] <;> fail)|(simp_all [Exec.cells,Deed.cells] <;> fail))|(apply Go.elem;(·(first|exact ev_get|exact int_get|exact lst_get|exact aElem)))|((with_reducible refine Go.callW (reads_pure _) ?_ ?_);(·exact aFit))|((with_reducible refine Go.callJ (fun _ => reads_pure _) ?_ ?_);(·exact aFit))|((with_reducible refine Go.callE (reads_pure _) ?_ ?_);(·exact aFit))|((with_reducible refine Go.callF (fun _ => reads_pure _) ?_ ?_);(·exact aFit))|((with_reducible refine Go.callW (writes_pure _) ?_ ?_);(·exact aFit))|((with_reducible refine Go.callJ (fun _ => writes_pure _) ?_ ?_);(·exact aFit))|((with_reducible refine Go.callE (writes_pure _) ?_ ?_);(·exact aFit))|((with_reducible refine Go.callF (fun _ => writes_pure _) ?_ ?_);(·exact aFit))|((refine Go.callF (fun _ => hB) ?_ ?_);(·exact aFit))|((refine Go.callF (fun hg => hA hg) ?_ ?_);(·exact aFit))|((refine Go.callJ (fun _ => hB) ?_ ?_);(·exact aFit))|((refine Go.callJ (fun hg => hA hg) ?_ ?_);(·exact aFit))|refine aH ?_|((with_reducible refine Go.bool ?_ ?_) <;> intro hc <;> (try simp only [List.length_map,ne_eq,hcs] at hc) <;> try (exfalso;omega)))
 refine bl_eq ?_
 rw [Bool.eq_iff_iff]
 simp only [isB,ev_fold,fr_fold,Int.toNat_natCast,Bool.and_eq_true,Bool.or_eq_true,decide_eq_true_eq,Bool.ite_eq_true_distrib,Bool.false_eq_true] at hc ⊢
 grind
end Go.Proofs.YtflicfkgbjmffaaGreat
end
section
/- A matrix of bools, and whether its arrows lead round. -/
namespace Go.Abs
open Go.RowKit
theorem flatL_sc {α:Type} (f:α→Value):∀ (l:List α),flatL (l.map fun a => AV.sc (f a))
 | [] => trivial
 | _ :: l => flatL_sc f l
theorem flatR_sc {α:Type} (f:α→Value) (l:List α):flatR (.agg (l.map fun a => AV.sc (f a))):=flatL_sc f l
end Go.Abs
namespace Go.Proofs.YtflicfkgbjmffaaGreat
open Go Go.Abs Go.Proofs
set_option linter.unusedSimpArgs false
set_option linter.unusedVariables false
abbrev Mat:=Nat→Nat→Bool
def msz:Nat:=4096
theorem msz_eq:msz = 4096:=rfl
attribute [irreducible] msz
def matC (M:Mat):List AV:=(List.range msz).map fun k => bl (M (k / 64) (k % 64))
theorem matC_rep:List.replicate 4096 (AV.sc (.bool false)) = matC fun _ _ => false:=by
 unfold matC
 rw [List.map_const',List.length_range,msz_eq]
theorem matC_at {M:Mat} {k:Nat} (h:k < 4096) (d:AV):(matC M).getD k d = bl (M (k / 64) (k % 64)):=by
 have h':k < msz:=by rw [msz_eq];exact h
 simp [matC,List.getD,h']
theorem matC_get {M:Mat} {a b:Nat} (ha:a < 64) (hb:b < 64) (d:AV):(matC M).getD (0 + (a:Int).toNat * 64 + (b:Int).toNat * 1) d = bl (M a b):=by
 rw [matC_at (by omega)]
 have e1:(0 + (a:Int).toNat * 64 + (b:Int).toNat * 1) / 64 = a:=by omega
 have e2:(0 + (a:Int).toNat * 64 + (b:Int).toNat * 1) % 64 = b:=by omega
 rw [e1,e2]
def setM (M:Mat) (a b:Nat) (v:Bool):Mat:=fun x y => if x = a∧y = b then v else M x y
theorem matC_set {M:Mat} {a b:Nat} (ha:a < 64) (hb:b < 64) (v:Bool):(matC M).set (0 + (a:Int).toNat * 64 + (b:Int).toNat * 1) (bl v) = matC (setM M a b v):=by
 apply List.ext_getElem?
 intro k
 simp only [matC,List.getElem?_set,List.getElem?_map,List.length_map,List.length_range,List.getElem?_range,setM]
 have hms:=msz_eq
 by_cases hk:k < msz
 ·by_cases h:0 + (a:Int).toNat * 64 + (b:Int).toNat * 1 = k
  ·rw [if_pos h,if_pos (by omega)]
   simp only [List.getElem?_range hk,Option.map_some]
   rw [if_pos (by omega)]
  ·rw [if_neg h]
   simp only [List.getElem?_range hk,Option.map_some]
   rw [if_neg (by omega)]
 ·rw [if_neg (by omega)]
  rw [List.getElem?_eq_none (by simp;omega)]
  rfl
theorem flat_mat (M:Mat):flatR (.agg (matC M)):=by
 have h:=flatR_sc (fun k => .bool (M (k / 64) (k % 64))) (List.range msz)
 have e:matC M = (List.range msz).map fun k => AV.sc (.bool (M (k / 64) (k % 64))):=by delta matC;rfl
 rw [← e] at h
 exact h
attribute [irreducible] matC
def step1 (k:Nat) (M:Mat):Mat:=fun a b => M a b || (M a k && M k b)
def warsh:Nat→Mat→Mat
 | 0,M => M
 | k + 1,M => step1 k (warsh k M)
def ringB (n:Nat) (M:Mat):Bool:=(List.range n).any fun k => warsh n M k k
theorem warsh_col (k:Nat) (M:Mat) (a:Nat):warsh (k + 1) M a k = warsh k M a k:=by
 simp only [warsh,step1];cases warsh k M a k <;> simp
theorem warsh_row (k:Nat) (M:Mat) (b:Nat):warsh (k + 1) M k b = warsh k M k b:=by
 simp only [warsh,step1];cases warsh k M k b <;> cases warsh k M k k <;> rfl
def Half (n k a b:Nat) (M0 M:Mat):Prop:=∀ x y,x < n→y < n→M x y = if x < a ∨ (x = a∧y < b) then warsh (k + 1) M0 x y else warsh k M0 x y
theorem Half.at_col {n k a b:Nat} {M0 M:Mat} (h:Half n k a b M0 M) {x:Nat} (hx:x < n) (hk:k < n):M x k = warsh k M0 x k:=by
 rw [h x k hx hk];split
 ·exact warsh_col k M0 x
 ·rfl
theorem Half.at_row {n k a b:Nat} {M0 M:Mat} (h:Half n k a b M0 M) {y:Nat} (hy:y < n) (hk:k < n):M k y = warsh k M0 k y:=by
 rw [h k y hk hy];split
 ·exact warsh_row k M0 y
 ·rfl
theorem Half.next {n k a b:Nat} {M0 M:Mat} (h:Half n k a b M0 M) (ha:a < n) (hb:b < n) (hk:k < n) {v:Bool} (hv:v = (M a b || (M a k && M k b))):Half n k a (b + 1) M0 (setM M a b v):=by
 intro x y hx hy
 simp only [setM]
 by_cases hxy:x = a∧y = b
 ·obtain ⟨rfl,rfl⟩:=hxy
  rw [if_pos ⟨rfl,rfl⟩,if_pos (.inr ⟨rfl,by omega⟩),hv,h.at_col hx hk,h.at_row hy hk,h x y hx hy,if_neg (by omega)]
  rfl
 ·rw [if_neg hxy,h x y hx hy]
  by_cases h1:x < a ∨ (x = a∧y < b)
  ·rw [if_pos h1,if_pos (by omega)]
  ·rw [if_neg h1,if_neg (by omega)]
theorem Half.row {n k a:Nat} {M0 M:Mat} (h:Half n k a n M0 M):Half n k (a + 1) 0 M0 M:=by
 intro x y hx hy
 rw [h x y hx hy]
 by_cases h1:x < a ∨ (x = a∧y < n)
 ·rw [if_pos h1,if_pos (by omega)]
 ·rw [if_neg h1,if_neg (by omega)]
theorem Half.all {n k:Nat} {M0 M:Mat} (h:Half n k n 0 M0 M):Half n (k + 1) 0 0 M0 M:=by
 intro x y hx hy
 rw [h x y hx hy,if_pos (by omega),if_neg (by omega)]
theorem Half.zero {n:Nat} (M:Mat):Half n 0 0 0 M M:=by
 intro x y hx hy
 rw [if_neg (by omega)];rfl
set_option maxHeartbeats 4000000 in
theorem ring_call (n b nx:Nat) (H:Hp) (d:AV) (M0:Mat) (hn:n ≤ 64) (hb:b < nx) (h0:getH H b = some (.row 141 4096 d [.agg (matC M0)])) :
  CallN Tryz.prog 61 [.pt b 1 0 0,i64 n] H nx (fun r H' nx' => r = bl (ringB n M0)∧nx ≤ nx'∧∀ y,y < nx→y ≠ b→getH H' y = getH H y):=by
 refine Go.fnL lf61 rfl ?_
 repeat' (first|((with_reducible refine Go.red ?_);conv => whnf)|refine aG ?_|exact aC|with_reducible refine Go.and ?_ ?_|(apply Go.elem;(·(first|((with_reducible refine matC_get ?_ ?_ _);(·omega);(·omega))|exact aElem)))|refine aH ?_|((with_reducible refine Go.bool ?_ ?_) <;> intro hc <;> (try simp only [List.length_map,ne_eq,hcs] at hc) <;> try (exfalso;omega)))
 refine Go.loop (fun p:Nat × Mat => [(0,.pt b 1 0 0),(1,i64 n),(9,i64 n),(10,i64 p.1)])
  (fun p H9 n9 => p.1 ≤ n∧nx ≤ n9∧getH H9 b = some (.row 141 4096 d [.agg (matC p.2)])∧Half n p.1 0 0 M0 p.2∧∀ y,y < nx→y ≠ b→getH H9 y = getH H y) (fun p => n - p.1) (0,M0) aLess ⟨Nat.zero_le _,aNx,aRow,Half.zero M0,fun _ _ _ => rfl⟩ ?_
 rintro ⟨k,M1⟩ H1 n1 ⟨hk,hn1,r1,hh1,hfr1⟩
 dsimp only at hk r1 hh1 hfr1 ⊢
 repeat' (first|((with_reducible refine Go.red ?_);conv => whnf)|refine aG ?_|exact aC|with_reducible refine Go.and ?_ ?_|(apply Go.elem;(·(first|((with_reducible refine matC_get ?_ ?_ _);(·omega);(·omega))|exact aElem)))|refine aH ?_|((with_reducible refine Go.bool ?_ ?_) <;> intro hc <;> (try simp only [List.length_map,ne_eq,hcs] at hc) <;> try (exfalso;omega)))
 ·refine Go.loop (fun p:Nat × Mat => [(0,.pt b 1 0 0),(1,i64 n),(5,i64 k),(9,i64 n),(10,i64 k),(13,i64 n),(14,i64 p.1)])
   (fun p H9 n9 => p.1 ≤ n∧nx ≤ n9∧getH H9 b = some (.row 141 4096 d [.agg (matC p.2)])∧Half n k p.1 0 M0 p.2∧∀ y,y < nx→y ≠ b→getH H9 y = getH H y) (fun p => n - p.1) (0,M1) aLess ⟨Nat.zero_le _,aNx,aRow,hh1,hfr1⟩ ?_
  rintro ⟨a,M2⟩ H2 n2 ⟨ha,hn2,r2,hh2,hfr2⟩
  dsimp only at ha r2 hh2 hfr2 ⊢
  repeat' (first|((with_reducible refine Go.red ?_);conv => whnf)|refine aG ?_|exact aC|with_reducible refine Go.and ?_ ?_|(apply Go.elem;(·(first|((with_reducible refine matC_get ?_ ?_ _);(·omega);(·omega))|exact aElem)))|refine aH ?_|((with_reducible refine Go.bool ?_ ?_) <;> intro hc <;> (try simp only [List.length_map,ne_eq,hcs] at hc) <;> try (exfalso;omega)))
  ·refine Go.loop (fun p:Nat × Mat => [(0,.pt b 1 0 0),(1,i64 n),(5,i64 k),(6,i64 a),(9,i64 n),(10,i64 k),(13,i64 n),(14,i64 a),(17,i64 n),(18,i64 p.1)])
    (fun p H9 n9 => p.1 ≤ n∧nx ≤ n9∧getH H9 b = some (.row 141 4096 d [.agg (matC p.2)])∧Half n k a p.1 M0 p.2∧∀ y,y < nx→y ≠ b→getH H9 y = getH H y) (fun p => n - p.1) (0,M2) aLess ⟨Nat.zero_le _,aNx,aRow,hh2,hfr2⟩ ?_
   rintro ⟨c,M3⟩ H3 n3 ⟨hc3,hn3,r3,hh3,hfr3⟩
   dsimp only at hc3 r3 hh3 hfr3 ⊢
   repeat' (first|((with_reducible refine Go.red ?_);conv => whnf)|refine aG ?_|exact aC|with_reducible refine Go.and ?_ ?_|(apply Go.elem;(·(first|((with_reducible refine matC_get ?_ ?_ _);(·omega);(·omega))|exact aElem)))|refine aH ?_|((with_reducible refine Go.bool ?_ ?_) <;> intro hc <;> (try simp only [List.length_map,ne_eq,hcs] at hc) <;> try (exfalso;omega)))
   ·refine ⟨(c + 1,setM M3 a c (if M3 a c = true then true else (if M3 a k = true then M3 k c else false))),by dsimp only;omega,aLess,by dsimp only;omega,aNx,?_,hh3.next (by omega) (by omega) (by omega) (by cases M3 a c <;> cases M3 a k <;> cases M3 k c <;> rfl),fun y hy hne => (getH_skipEq hne).trans (hfr3 y hy hne)⟩
    dsimp only
    rw [← matC_set (by omega) (by omega)]
    exact aRow
   ·have:c = n:=by omega
    subst this
    exact ⟨(a + 1,M3),by dsimp only;omega,aLess,by dsimp only;omega,aNx,aRow,hh3.row,hfr3⟩
  ·have:a = n:=by omega
   subst this
   exact ⟨(k + 1,M2),by dsimp only;omega,aLess,by dsimp only;omega,aNx,aRow,hh2.all,hfr2⟩
 ·have:k = n:=by omega
  subst this
  refine Go.loop (fun i:Nat => [(0,.pt b 1 0 0),(55,i64 k),(56,i64 i)])
   (fun i H9 n9 => i ≤ k∧nx ≤ n9∧getH H9 b = some (.row 141 4096 d [.agg (matC M1)])∧(∀ j,j < i→M1 j j = false)∧∀ y,y < nx→y ≠ b→getH H9 y = getH H y) (fun i => k - i) 0 aLess ⟨Nat.zero_le _,aNx,aRow,fun _ h => by omega,hfr1⟩ ?_
  rintro i H4 n4 ⟨hi,hn4,r4,hno,hfr4⟩
  have hd:∀ j,j < k→M1 j j = warsh k M0 j j:=fun j hj => by rw [hh1 j j hj hj,if_neg (by omega)]
  repeat' (first|((with_reducible refine Go.red ?_);conv => whnf)|refine aG ?_|exact aC|with_reducible refine Go.and ?_ ?_|(apply Go.elem;(·(first|((with_reducible refine matC_get ?_ ?_ _);(·omega);(·omega))|exact aElem)))|refine aH ?_|((with_reducible refine Go.bool ?_ ?_) <;> intro hc <;> (try simp only [List.length_map,ne_eq,hcs] at hc) <;> try (exfalso;omega)))
  ·refine ⟨⟨?_,aNx,hfr4⟩⟩
   refine bl_eq (Eq.symm ?_)
   simp only [ringB,List.any_eq_true,List.mem_range]
   exact ⟨i,by omega,by rw [← hd i (by omega)];exact hc⟩
  ·refine ⟨i + 1,by omega,aLess,by omega,aNx,aRow,fun j hj => ?_,hfr4⟩
   by_cases hji:j = i
   ·subst hji;exact hc
   ·exact hno j (by omega)
  ·refine ⟨⟨?_,aNx,hfr4⟩⟩
   refine bl_eq (Eq.symm ?_)
   simp only [ringB,List.any_eq_false,List.mem_range]
   intro j hj
   rw [← hd j hj,hno j (by omega)]
   simp
end Go.Proofs.YtflicfkgbjmffaaGreat
end
