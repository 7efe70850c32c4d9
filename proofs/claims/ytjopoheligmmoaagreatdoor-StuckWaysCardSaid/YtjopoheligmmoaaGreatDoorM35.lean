import Derived.Test.YtjopoheligmmoaaGreatDoorM17
section
/- Draws are counted up: no step of the machine takes one back. -/
set_option linter.unusedVariables false
set_option linter.unusedSimpArgs false
namespace Go.cw
open Go.RowKit
def Result.wd {α:Type}:Result α->World
 | .ok _ w=>w
 | .halt _ w=>w
theorem LB {α:Type}:∀(q:Ask α) (w:World),w.drawn<=(w.ask q).2.drawn
 | .done a,w=>Nat.le_refl _
 | .ask what range k,w=>by
  rw[World.ask]
  split
  ·exact LB _ w
  ·exact Nat.le_trans (Nat.le_succ _) (LB _ { w with drawn:=w.drawn+1 })
theorem OV (w:World) (c:Sys):w.drawn<=(w.sys c).2.drawn:=by
 unfold World.sys
 have:=LB (Kernel.perform c w.os) w
 split
 ·exact Nat.le_refl _
 ·rename_i h
  rw[h] at this
  exact this
theorem za (w:World) (a:Addr) (n:Nat):(w.freeze a n).drawn=w.drawn:=by
 unfold World.freeze
 split<;>rfl
theorem UX {p:Program} {w w':World} {x:Addr} {u:TypeId} {a:Addr} {v:Value} {b:Bool} {l:List Addr} (h:w.viewStore p x u a v b= .ok (w',l)):w'.drawn=w.drawn:=by
 unfold World.viewStore at h
 simp only[bind,Except.bind,pure,Except.pure,throw,throwThe,MonadExceptOf.throw] at h
 repeat' (split at h)
 all_goals first
  |(cases h;rfl)
  |cases h
theorem SD {p:Program} {w w':World} {a:Addr} {v:Value} {b:Bool} {l:List Addr} (h:w.farStore p a v b= .ok (w',l)):w'.drawn=w.drawn:=by
 unfold World.farStore at h
 split at h
 ·split at h
  ·rename_i r hr
   cases h
   exact UX hr
  ·cases h
 ·cases h
theorem ET {α:Type} (p:Program) (s:Sem α):∀(w:World) (es:Array Event),w.drawn<=(Result.wd (s.runT p w es).1).drawn:=by
 induction s with
 |pure a=>intro w es;exact Nat.le_refl _
 |load m a k ih=>
  intro w es
  rw[Sem.runT]
  split
  ·exact ih _ _ _
  ·split
   ·exact ih _ _ _
   ·exact Nat.le_refl _
 |store m a v k ih=>
  intro w es
  cases v<;>rw[Sem.runT]<;>try exact Nat.le_refl _
  all_goals first
   |(intro _ h;cases h;done)
   |(split
     ·split
      ·exact Nat.le_refl _
      ·refine Nat.le_trans (Nat.le_of_eq ?_) (ih _ _)
       rfl
     ·split
      ·rename_i h;rw[<-SD h];exact ih _ _
      ·exact Nat.le_refl _)
 |new o k ih=>intro w es;rw[Sem.runT];exact ih _ { w with heap:=w.heap.push o } _
 |shape r k ih=>intro w es;rw[Sem.runT];exact ih _ _ _
 |freeze a n k ih=>intro w es;rw[Sem.runT,<-za w a n];exact ih _ _
 |frozen a k ih=>intro w es;rw[Sem.runT];exact ih _ _ _
 |getObj r k ih=>
  intro w es
  rw[Sem.runT]
  split
  ·exact Nat.le_refl _
  ·exact ih _ _ _
  ·exact Nat.le_refl _
 |setObj r o k ih=>
  intro w es
  rw[Sem.runT]
  split
  ·exact Nat.le_refl _
  ·exact ih { w with heap:=w.heap.setIfInBounds r o } _
  ·exact Nat.le_refl _
 |choose q k ih=>
  intro w es
  rw[Sem.runT]
  split
  ·exact ih _ _ _
  ·exact Nat.le_trans (Nat.le_succ _) (ih _ { w with drawn:=w.drawn+1 } _)
 |sys c k ih=>
  intro w es
  rw[Sem.runT]
  exact Nat.le_trans (OV w c) (ih _ _ _)
 |program k ih=>intro w es;rw[Sem.runT];exact ih _ _ _
 |mark m k ih=>intro w es;rw[Sem.runT];exact ih _ _
 |halt h=>intro w es;exact Nat.le_refl _
theorem OG {α:Type} (p:Program) (s:Sem α):∀(w:World),w.drawn<=(Result.wd (s.run p w)).drawn:=by
 induction s with
 |pure a=>intro w;exact Nat.le_refl _
 |load m a k ih=>
  intro w
  rw[Sem.run]
  split
  ·exact ih _ _
  ·split
   ·exact ih _ _
   ·exact Nat.le_refl _
 |store m a v k ih=>
  intro w
  cases v<;>rw[Sem.run]<;>try exact Nat.le_refl _
  all_goals first
   |(intro _ h;cases h;done)
   |(split
     ·split
      ·exact Nat.le_refl _
      ·refine Nat.le_trans (Nat.le_of_eq ?_) (ih _)
       rfl
     ·split
      ·rename_i h;rw[<-SD h];exact ih _
      ·exact Nat.le_refl _)
 |new o k ih=>intro w;rw[Sem.run];exact ih _ { w with heap:=w.heap.push o }
 |shape r k ih=>intro w;rw[Sem.run];exact ih _ _
 |freeze a n k ih=>intro w;rw[Sem.run,<-za w a n];exact ih _
 |frozen a k ih=>intro w;rw[Sem.run];exact ih _ _
 |getObj r k ih=>
  intro w
  rw[Sem.run]
  split
  ·exact Nat.le_refl _
  ·exact ih _ _
  ·exact Nat.le_refl _
 |setObj r o k ih=>
  intro w
  rw[Sem.run]
  split
  ·exact Nat.le_refl _
  ·exact ih { w with heap:=w.heap.setIfInBounds r o }
  ·exact Nat.le_refl _
 |choose q k ih=>
  intro w
  rw[Sem.run]
  split
  ·exact ih _ _
  ·exact Nat.le_trans (Nat.le_succ _) (ih _ { w with drawn:=w.drawn+1 })
 |sys c k ih=>
  intro w
  rw[Sem.run]
  exact Nat.le_trans (OV w c) (ih _ _)
 |program k ih=>intro w;rw[Sem.run];exact ih _ _
 |mark m k ih=>intro w;rw[Sem.run];exact ih _
 |halt h=>intro w;exact Nat.le_refl _
theorem iC {α:Type} {p:Program} {s:Sem α} {w w':World} {a:α} (h:s.run p w= .ok a w'):w.drawn<=w'.drawn:=by
 have:=OG p s w
 rw[h] at this;exact this
theorem run_halt {α:Type} {p:Program} {s:Sem α} {w w':World} {a:Halt} (h:s.run p w= .halt a w'):w.drawn<=w'.drawn:=by
 have:=OG p s w
 rw[h] at this;exact this
def GStep.wd:GStep->World
 | .go _ w _=>w
 | .comm _ _ _ _ w _=>w
 | .spawn _ _ w _=>w
 | .count _ w _=>w
 | .timer _ _ w _=>w
 | .alone _ _ w _=>w
 | .newcoro _ _ _ w _=>w
 | .coroswitch _ _ _ w _=>w
 | .collect _ w _=>w
 | .watch _ w _=>w
 | .ended _ w _=>w
theorem oB (es:Array Event) (s:GStep):GStep.wd (s.after es)=GStep.wd s:=by cases s<;>rfl
theorem FC {w w':World} {c:Sys} {r:SysRet} (h:w.sys c=(r,w')):w.drawn<=w'.drawn:=by
 have:=OV w c
 rw[h] at this;exact this
theorem HN (w:World) (fd:Nat) (text:ByteArray) (o:Outcome):w.drawn<=(GStep.wd (endWith w fd text o)).drawn:=by
 unfold endWith
 dsimp only
 split
 ·rename_i h
  split<;>exact FC h
 ·rename_i h;exact FC h
 ·rename_i h;exact FC h
theorem yb (fr:Frame) (m:String) (w:World):GStep.wd (endThrow fr m w)=w:=rfl
theorem GK (p:Program) (fr:Frame) (v:Value) (w:World):GStep.wd (endPrinting p fr v w)=w:=by
 unfold endPrinting
 dsimp only
 split<;>rfl
theorem F3 (p:Program) (fr:Frame) (callers:List Frame) (dying:Option Dying) (m:String) (w:World):w.drawn<=(GStep.wd (endFatal p fr callers dying m w)).drawn:=by
 unfold endFatal
 dsimp only
 split
 ·rename_i h;exact iC h
 ·rename_i h;exact run_halt h
 ·rename_i h;exact run_halt h
theorem runT_eq {α:Type} {p:Program} {s:Sem α} {w:World} {es es':Array Event} {r:Result α} (h:s.runT p w es=(r,es')):w.drawn<=(Result.wd r).drawn:=by
 have:=ET p s w es
 rw[h] at this;exact this
theorem KQ (p:Program) (fr:Frame) (d:Dying) (f:Fatal) (w:World):w.drawn<=(GStep.wd (writeOn p fr d f w)).drawn:=by
 unfold writeOn
 dsimp only
 split
 ·exact Nat.le_refl _
 ·split
  all_goals (rename_i h;exact runT_eq h)
theorem V1 (p:Program) (fr:Frame) (d:Dying) (w:World):w.drawn<=(GStep.wd (die p fr d w)).drawn:=by
 unfold die
 split
 ·exact KQ _ _ _ _ _
 ·split
  ·split
   ·exact Nat.le_refl _
   ·exact HN _ _ _ _
  ·dsimp only
   split
   ·exact Nat.le_refl _
   ·split
    ·rename_i h;exact iC h
    ·rename_i h;exact run_halt h
   ·rw[oB]
    generalize hr:Sem.runT p _ w #[]=x
    obtain⟨r,es⟩:=x
    have:=runT_eq hr
    dsimp only
    split
    all_goals first
     |exact this
     |(rw[GK];exact this)
     |exact Nat.le_refl _
   ·exact Nat.le_refl _
theorem QB (p:Program) (fr:Frame) (callers:List Frame) (dying:Option Dying) (g:Nat) (w:World):w.drawn<=(GStep.wd (early p fr callers dying g w)).drawn:=by
 unfold early
 dsimp only
 repeat' split
 all_goals first
  |exact Nat.le_refl _
  |(have:=iC ‹Sem.run _ _ _=Result.ok _ _›;exact this)
  |(have:=run_halt ‹Sem.run _ _ _=Result.halt _ _›;exact this)
theorem pK (p:Program) (main:Bool) (fr:Frame) (callers:List Frame) (dying:Option Dying) (v:Value) (w:World):GStep.wd (doReturn p main fr callers dying v w)=w:=by
 unfold doReturn
 repeat' split
 all_goals rfl
theorem tu (p:Program) (fr:Frame) (callers:List Frame) (dying:Option Dying) (d:Deferred) (w:World):w.drawn<=(GStep.wd (callDeferred p fr callers dying d w)).drawn:=by
 unfold callDeferred
 generalize hr:Sem.runT p _ w #[]=x
 obtain⟨r,es⟩:=x
 have:=runT_eq hr
 dsimp only
 repeat' (first|rw[oB]|split)
 all_goals first
  |exact this
  |exact Nat.le_refl _
  |exact Nat.le_trans this (F3 _ _ _ _ _ _)
theorem O0 (p:Program) (main:Bool) (fr:Frame) (callers:List Frame) (dying:Option Dying) (w:World):w.drawn<=(GStep.wd (unwind p main fr callers dying w)).drawn:=by
 unfold unwind
 split
 ·generalize hr:Sem.runT p _ w #[]=x
  obtain⟨r,es⟩:=x
  have:=runT_eq hr
  dsimp only
  rw[oB]
  split<;>exact this
 ·exact tu _ _ _ _ _ _
 ·split
  ·exact Nat.le_refl _
  ·split
   ·exact Nat.le_refl _
   ·split
    ·exact Nat.le_refl _
    ·split
     ·split
      ·exact Nat.le_refl _
      ·split
       ·rename_i h;exact iC h
       ·rename_i h;exact run_halt h
       ·rename_i h;exact run_halt h
     ·split
      ·rw[GK];exact Nat.le_refl _
      ·exact Nat.le_refl _
  ·split
   ·rw[pK];exact Nat.le_refl _
   ·generalize hr:Sem.runT p _ w #[]=x
    obtain⟨r,es⟩:=x
    have:=runT_eq hr
    dsimp only
    rw[oB]
    split
    ·rw[pK];exact this
    ·exact this
    ·exact this
theorem su (p:Program) (fr:Frame) (callers:List Frame) (dying:Option Dying) (s:Sem Next) (w:World) (main:Bool) (listen:Bool):w.drawn<=(GStep.wd (stepG.apply p listen fr callers dying s w)).drawn:=by
 unfold stepG.apply
 have key:∀x:Result Next×Array Event,(if listen=true then s.runT p w #[] else(s.run p w,#[]))=x->w.drawn<=(Result.wd x.1).drawn:=by
  rintro⟨r,es⟩ hx
  split at hx
  ·exact runT_eq hx
  ·cases hx;exact OG p s w
 generalize hr:(if listen=true then s.runT p w #[] else(s.run p w,#[]))=x
 have:=key x hr
 obtain⟨r,es⟩:=x
 dsimp only at this ⊢
 rw[oB]
 repeat' split
 all_goals first
  |exact this
  |exact Nat.le_trans this (F3 _ _ _ _ _ _)
  |exact Nat.le_trans this (QB _ _ _ _ _ _)
  |(rw[yb];exact this)
theorem UF (p:Program) (fr:Frame) (callers:List Frame) (dying:Option Dying) (w:World) (listen:Bool):w.drawn<=(GStep.wd (stepG.oper p listen fr callers dying w)).drawn:=by
 unfold stepG.oper
 split
 ·exact Nat.le_refl _
 ·split
  ·exact su _ _ _ _ _ _ true _
  ·exact su _ _ _ _ _ _ true _
theorem RB {α:Type} {p:Program} {s:Sem α} {w w':World} {a:α} {es:Array Event} (h:(s.runT p w es).1= .ok a w'):w.drawn<=w'.drawn:=by
 have:=ET p s w es
 rw[h] at this;exact this
theorem JZ {α:Type} {p:Program} {s:Sem α} {w w':World} {a:Halt} {es:Array Event} (h:(s.runT p w es).1= .halt a w'):w.drawn<=w'.drawn:=by
 have:=ET p s w es
 rw[h] at this;exact this
theorem TL {α:Type} {n:Nat} {o:Option α} {a:GStep} {f:α->GStep} (h1:n<=(GStep.wd a).drawn) (h2:∀x,n<=(GStep.wd (f x)).drawn):n<=(GStep.wd (o.elim a f)).drawn:=by
 cases o
 ·exact h1
 ·exact h2 _
set_option maxHeartbeats 8000000 in
theorem TN (p:Program) (main:Bool) (fr:Frame) (callers:List Frame) (dying:Option Dying) (w:World) (listen:Bool):w.drawn<=(GStep.wd (stepG.exec p main listen fr callers dying w)).drawn:=by
 unfold stepG.exec
 dsimp only
 split
 all_goals repeat' (first|exact Nat.le_refl _|exact su _ _ _ _ _ _ true _|exact UF _ _ _ _ _ _|(refine TL ?_ ?_)|(intro _)|rw[oB]|split)
 all_goals first
  |exact Nat.le_refl _
  |(have:=iC ‹Sem.run _ _ _=Result.ok _ _›;exact this)
  |(have:=run_halt ‹Sem.run _ _ _=Result.halt _ _›;exact this)
  |(have:=RB ‹(Sem.runT _ _ _ _).fst=Result.ok _ _›;first|exact this|(rw[pK];exact this)|exact Nat.le_trans this (su _ _ _ _ _ _ true _))
  |(have:=JZ ‹(Sem.runT _ _ _ _).fst=Result.halt _ _›;exact this)
theorem RL (p:Program) (main:Bool) (g:Goroutine) (w:World) (listen:Bool):w.drawn<=(GStep.wd (stepG p main g w listen)).drawn:=by
 unfold stepG
 dsimp only
 split
 ·exact V1 _ _ _ _
 ·exact TN _ _ _ _ _ _ _
 ·exact O0 _ _ _ _ _ _
def SA (n:Nat):Stepped->Prop
 | .next m=>n<=m.world.drawn
 |_=>True
theorem NO (p:Program) (gs:Array Goroutine) (rest:Rest) (w:World):SA w.drawn (look p gs rest w):=by
 unfold look
 dsimp only
 repeat' split
 all_goals first
  |trivial
  |(have:=iC ‹Sem.run _ _ _=Result.ok _ _›;exact this)
theorem KJ {rest:Rest} {cases:Array CommCase} {w w':World} (h:waitingAt rest cases w=some w'):w'.drawn=w.drawn:=by
 unfold waitingAt at h
 repeat' split at h
 all_goals (cases h;try rfl)
theorem nO {n k:Nat} {s:Stepped} (h:n<=k) (hs:SA k s):SA n s:=by
 cases s
 case next m=>exact Nat.le_trans h hs
 all_goals trivial
set_option maxHeartbeats 4000000 in
theorem vj (p:Program) (rest:Rest) (gs:Array Goroutine) (i:Nat) (g:Goroutine) (cases:Array CommCase) (blocking:Bool) (shape:CommShape) (w:World):SA w.drawn (communicate p rest gs i g cases blocking shape w).1:=by
 unfold communicate
 dsimp only
 split
 ·trivial
 ·split
  ·split
   ·split
    ·have:=KJ ‹waitingAt _ _ _=some _›;exact Nat.le_of_eq this.symm
    ·trivial
   ·exact Nat.le_refl _
  ·split
   ·trivial
   ·have h1:=iC ‹Sem.run _ _ _=Result.ok _ _›
    refine nO h1 ?_
    repeat' split
    all_goals first
     |trivial
     |exact Nat.le_refl _
     |(have:=iC ‹Sem.run _ _ _=Result.ok _ _›;exact this)
     |(have:=run_halt ‹Sem.run _ _ _=Result.halt _ _›;exact this)
theorem QA (w:World) (c:Nat):(drain w c).2.drawn=w.drawn:=by
 unfold drain
 split<;>rfl
theorem A9 (m:Machine) (k:Nat) (t:Timer) (a b:Nat):(retime m k t a b).2.world.drawn=m.world.drawn:=by
 unfold retime
 dsimp only
 split
 ·exact QA _ _
 ·rfl
theorem GD {m m':Machine} {var:Addr} {f:Nat->Timer->Value×Machine} {n:Nat} {v:Value} (hf:∀k t,(f k t).2.world.drawn=n) (h:timerOp.named m var f= .ok (v,m')):m'.world.drawn=n:=by
 unfold timerOp.named at h
 split at h
 ·have:=hf
  rename_i k _
  have h2:=hf k (m.rest.timers.getD k default)
  simp only[Except.ok.injEq] at h
  rw[h] at h2
  exact h2
 ·cases h
theorem N1 {m m':Machine} {var:Addr} (h:timerOp.opened m var=some m'):m'.world.drawn=m.world.drawn:=by
 unfold timerOp.opened at h
 repeat' split at h
 all_goals (cases h;try rfl)
theorem RR {m m':Machine} {op:TimerOp} {v:Value} (h:timerOp m op= .ok (v,m')):m'.world.drawn=m.world.drawn:=by
 unfold timerOp at h
 split at h
 ·split at h
  ·cases h;rfl
  ·split at h
   ·split at h
    ·cases h
    ·cases h;rfl
   ·cases h
 ·exact GD (fun k t=>A9 _ _ _ _ _) h
 ·split at h
  ·rename_i ho
   rw[<-N1 ho]
   exact GD (fun k t=>A9 _ _ _ _ _) h
  ·cases h
 ·cases h;rfl
theorem RE (p:Program) (m:Machine) (k:Nat):SA m.world.drawn (serve p m k):=by
 unfold serve
 dsimp only
 repeat' split
 all_goals first
  |trivial
  |exact Nat.le_refl _
theorem QW (p:Program) (m:Machine) (i:Nat) (listen:Bool):SA m.world.drawn (Go.runT p m i listen).1:=by
 unfold Go.runT
 dsimp only
 generalize hg:m.gs.swapAt! i _=x
 obtain⟨g,gs⟩:=x
 dsimp only
 have h0:=RL p (i==0) g m.world listen
 generalize hs:stepG p (i==0) g m.world listen=s at h0
 cases s<;>dsimp only[GStep.wd] at h0 ⊢
 case go=>exact h0
 case comm=>exact nO h0 (vj _ _ _ _ _ _ _ _ _)
 case spawn=>exact h0
 case count=>split<;>first|trivial|exact h0
 case alone=>exact h0
 case collect=>exact nO h0 (NO _ _ _ _)
 case watch=>exact h0
 case newcoro=>exact h0
 case coroswitch=>
  repeat' split
  all_goals first
   |trivial
   |exact h0
   |(rename_i ht;have:=congrArg GStep.wd ht;rw[yb] at this;dsimp only[GStep.wd] at this;subst this;exact h0)
 case timer=>
  repeat' split
  all_goals first
   |trivial
   |(have:=RR ‹timerOp _ _=Except.ok _›;exact Nat.le_trans h0 (Nat.le_of_eq this.symm))
   |(rename_i ht;have:=congrArg GStep.wd ht;rw[yb] at this;dsimp only[GStep.wd] at this;subst this;exact h0)
 case ended=>trivial
def VE (n:Nat):Move->Prop
 | .goroutine m _=>n<=m.world.drawn
 | .machine s _=>SA n s
theorem kI {n k:Nat} {s:Move} (h:n<=k) (hs:VE k s):VE n s:=by
 cases s
 case goroutine m i=>exact Nat.le_trans h hs
 case machine m i=>exact nO h hs
theorem xf (p:Program) (m:Machine):VE m.world.drawn (askOn p m):=by
 have pick:∀(m:Machine) (rs:List Nat),VE m.world.drawn (match(choose (.sched rs.length)).run p m.world with
  | .halt _ w=> .machine (.ended (.stuck "sched" "") w)
  | .ok k world=>
   if rs.length<=1 then .goroutine { m with world } (rs.getD k 0) else
   match(choose (.extern "sched.slice" 65536)).run p world with
   | .halt _ w=> .machine (.ended (.stuck "sched.slice" "") w)
   | .ok n world=> .goroutine { m with world,rest:={ m.rest with slice:=if n=0 then none else some (rs.getD k 0,n) } } (rs.getD k 0)):=by
  intro m rs
  split
  ·trivial
  ·have h1:=iC ‹Sem.run _ _ _=Result.ok _ _›
   refine kI h1 ?_
   split
   ·exact Nat.le_refl _
   ·split
    ·trivial
    ·have h1:=iC ‹Sem.run _ _ _=Result.ok _ _›;exact h1
 unfold askOn
 dsimp only
 split
 ·trivial
 ·have h1:=iC ‹Sem.run _ _ _=Result.ok _ _›
  refine kI h1 ?_
  split
  ·exact RE _ { m with world:=_ } _
  ·split
   ·split
    ·exact Nat.le_refl _
    ·split
     ·exact Nat.le_refl _
     ·split<;>trivial
   ·split
    ·exact pick { m with world:=_ } _
    ·split
     ·trivial
     ·have h1:=iC ‹Sem.run _ _ _=Result.ok _ _›
      refine kI h1 ?_
      exact pick { m with world:=_ } _
     ·have h1:=iC ‹Sem.run _ _ _=Result.ok _ _›
      exact h1
     ·have h1:=iC ‹Sem.run _ _ _=Result.ok _ _›
      refine kI h1 ?_
      exact pick (Machine.advanceTo { m with world:=_ } _) _
theorem K9 (p:Program) (m:Machine):VE m.world.drawn (Go.ask p m):=by
 unfold Go.ask
 split
 ·split
  ·trivial
  ·have h1:=iC ‹Sem.run _ _ _=Result.ok _ _›
   refine kI h1 ?_
   have h2:=NO p m.gs m.rest ‹World›
   split
   ·rename_i hl
    rw[hl] at h2
    exact kI h2 (xf _ _)
   ·exact h2
  ·have h1:=iC ‹Sem.run _ _ _=Result.ok _ _›
   refine kI h1 ?_
   exact xf p { m with world:=_ }
 ·exact xf _ _
theorem UA (p:Program) (m:Machine):VE m.world.drawn (Go.move p m):=by
 unfold Go.move
 split
 ·split
  ·exact Nat.le_refl _
  ·trivial
 ·split
  ·split
   ·exact Nat.le_refl _
   ·exact K9 p { m with rest:=_ }
  ·exact K9 _ _
theorem UQ {p:Program} {m m':Machine} (h:step p m= .next m'):m.world.drawn<=m'.world.drawn:=by
 have:SA m.world.drawn (step p m):=by
  unfold step stepT
  have h1:=UA p m
  split
  ·rename_i hm
   rw[hm] at h1
   exact nO h1 (QW _ _ _ _)
  ·rename_i hm
   rw[hm] at h1
   exact h1
 rw[h] at this
 exact this
theorem OF {p:Program}:∀{n:Nat} {m m':Machine},runN p n m= .next m'->m.world.drawn<=m'.world.drawn
 |0,m,m',h=>by cases h;exact Nat.le_refl _
 |n+1,m,m',h=>by
  rw[runN] at h
  split at h
  ·rename_i h1
   exact Nat.le_trans (UQ h1) (OF h)
  ·rename_i h1
   exact(h1 _ h).elim
theorem RN {p:Program} {m m':Machine} (h:Steps p m m'):m.world.drawn<=m'.world.drawn:=by
 obtain⟨n,h⟩:=h
 exact OF h
theorem PT {P:Program} {f:FuncId} {args:Array Value} {w:World} {R:Ending->World->Prop} (h:Calls P f args w R):Calls P f args w fun e w'=>R e w'/\∀v,e= .returned v->w.drawn<=w'.drawn:=by
 intro cs
 obtain⟨e,w',fr,h1,h2,h3,h4⟩:=h cs
 refine⟨e,w',fr,⟨h1,fun v he=> ?_⟩,h2,h3,h4⟩
 subst he
 exact RN h2
end Go.cw
end
