import Derived.Test.YtmonponfppdgfaaGreatDoorM17
section
/- Rows that are written no more, told as what is held by value. -/
namespace Go.Abs
open Go.RowKit
set_option linter.unusedSimpArgs false
set_option linter.unusedVariables false
def iceS (f:AV→AV) (G:Hp):AV→AV
 | .sl b len => match getH G b with
  | some (.row _ sz _ es) => if es.length = len then .im sz .any (es.map f) else .sl b len
  | none => .sl b len
 | .agg cs => .agg (cs.map f)
 | .tup cs => .tup (cs.map f)
 | a => a
def ice (G:Hp):Nat→AV→AV
 | 0,a => a
 | k + 1,a => iceS (ice G k) G a
theorem AVles.map1 {c c2:Cx} (f:AV→AV) (h:∀ a,AVle c c2 a (f a)):∀ l:List AV,AVles c c2 l (l.map f)
 | [] => .nil
 | a :: l => .cons (h a) (AVles.map1 f h l)
theorem AVle.imS2 {w0:World} {c c2:Cx} (hS:Sim w0 c) {b:Nat} {e:TypeId} {sz:Nat} {d:AV} {es es2:List AV} (d2:AV) (hw:c2.w = c.w) (hH:c.H b = some (.row e sz d es)) (hM:∀ blk o z,c.ρ b = some (blk,o,z)→¬ c2.M blk) (h:AVles c c2 es es2):AVle c c2 (.sl b es.length) (.im sz d2 es2):=by
 have hl:=h.length
 intro v hv
 rw [VR] at hv
 obtain ⟨_,a,cap,rfl,hr⟩:=hv
 obtain ⟨_,hr⟩:=hr _ _ _ _ hH
 obtain ⟨_,hz,hrow⟩:=hS.rowQ b _ _ _ _ hH (sl_q (hr rfl))
 rw [VR]
 rcases hr rfl with ⟨hρ,rfl,rfl⟩|⟨blk,o,z,hρ,rfl,hc1,_,_⟩
 ·rcases hrow with ⟨_,rfl⟩|⟨_,_,_,hρ',_⟩
  ·have:es2 = []:=List.eq_nil_of_length_eq_zero (by simpa using hl.symm)
   subst this
   exact ⟨none,0,rfl,by simp,.inl rfl⟩
  ·rw [hρ] at hρ';cases hρ'
 ·rcases hrow with ⟨hρ',_⟩|⟨blk1,o1,z1,hρ1,_,_,_,hrow⟩
  ·rw [hρ] at hρ';cases hρ'
  ·rw [hρ] at hρ1;cases hρ1
   exact ⟨_,cap,by rw [← hl],by rw [← hl];exact hc1,.inr ⟨blk,o,rfl,hz,hM _ _ _ hρ,h.row hw hrow⟩⟩
theorem AVle.ice {w0:World} {c c2:Cx} {G:Hp} (hS:Sim w0 c) (hw:c2.w = c.w) (hle:c.le c2) (hG:∀ b q,getH G b = some q→c.H b = some q∧∀ blk o z,c.ρ b = some (blk,o,z)→¬ c2.M blk):∀ (k:Nat) (a:AV),AVle c c2 a (ice G k a):=by
 intro k
 induction k with
 | zero => intro a;rw [Go.Abs.ice];exact AVle.keep hle a
 | succ k ih =>
  intro a
  cases a <;> rw [Go.Abs.ice] <;> simp only [iceS] <;> try exact AVle.keep hle _
  case sl b len =>
   cases hb:getH G b with
   | none => simp only;exact AVle.keep hle _
   | some q =>
    obtain ⟨e,sz,d,es⟩:=q
    simp only
    split
    ·rename_i hl
     obtain ⟨g1,g2⟩:=hG b _ hb
     rw [← hl]
     exact AVle.imS2 hS .any hw g1 g2 (AVles.map1 _ ih es)
    ·exact AVle.keep hle _
  case agg cs => exact AVle.agg (AVles.map1 _ ih cs)
  case tup cs => exact AVle.tup (AVles.map1 _ ih cs)
def goneH (G H:Hp):Hp:=G.map (fun p => (p.1,none)) ++ H
theorem goneH_nil (H:Hp):goneH [] H = H:=rfl
theorem goneH_cons (b:Nat) (q:Option Blk) (G H:Hp):goneH ((b,q) :: G) H = (b,none) :: goneH G H:=rfl
theorem goneH_in {H:Hp} {b:Nat}:∀ {G:Hp},b ∈ G.map (·.1)→getH (goneH G H) b = none
 | (x,q) :: G,h => by
  rw [goneH_cons]
  by_cases hb:b = x
  ·subst hb;exact getH_here _ _ _
  ·rw [getH_skipEq hb]
   exact goneH_in (by simpa [hb] using h)
theorem goneH_out {H:Hp} {b:Nat}:∀ {G:Hp},b ∉ G.map (·.1)→getH (goneH G H) b = getH H b
 | [],_ => rfl
 | (x,q) :: G,h => by
  simp only [List.map_cons,List.mem_cons,not_or] at h
  rw [goneH_cons,getH_skipEq h.1,goneH_out h.2]
theorem getH_in {b:Nat} {q:Blk}:∀ {G:Hp},getH G b = some q→b ∈ G.map (·.1)
 | (x,p) :: G,h => by
  by_cases hb:b = x
  ·simp [hb]
  ·rw [getH_skipEq hb] at h
   simp only [List.map_cons,List.mem_cons]
   exact .inr (getH_in h)
theorem Wk.iceR {r:AV} {H:Hp} {nx:Nat} (G:Hp) (k:Nat) (hG:∀ b q,getH G b = some q→getH H b = some q):Wk r H nx (ice G k r) (goneH G H) nx:=by
 refine Wk.tell (Nat.le_refl _) (fun b e sz d es he => ?_) (fun w0 c c2 hS hU hc hc2 hw hle hnew hM => ⟨?_,fun b e sz d es d0 es0 h1 h2 => ?_⟩)
 ·by_cases hb:b ∈ G.map (·.1)
  ·rw [goneH_in hb] at he;cases he
  ·rw [goneH_out hb] at he
   exact .inl ⟨d,es,he,rfl⟩
 ·refine AVle.ice hS hw hle (fun b q hq => ?_) k r
  have h1:=hG b q hq
  exact ⟨by rw [hc];exact h1,fun blk o z hρ => hM b q blk o z h1 (goneH_in (getH_in hq)) hρ⟩
 ·by_cases hb:b ∈ G.map (·.1)
  ·rw [goneH_in hb] at h1;cases h1
  ·rw [goneH_out hb] at h1
   rw [h1] at h2;cases h2
   exact AVles.keep hle _
theorem Wk.ice {H:Hp} {nx cb:Nat} {e:TypeId} {sz:Nat} {d:AV} {es:List AV} (G:Hp) (k:Nat) (d2:AV) (hcb:getH H cb = some (.row e sz d es)) (hG:∀ b q,getH G b = some q→getH H b = some q):Wk .any H nx .any (goneH G ((cb,some (.row e sz d2 (es.map (ice G k)))) :: H)) nx:=by
 refine Wk.tell (Nat.le_refl _) (fun b e' sz' d' es' he => ?_) (fun w0 c c2 hS hU hc hc2 hw hle hnew hM => ⟨AVle.any _ _ _,fun b e' sz' d' es' d0 es0 h1 h2 => ?_⟩)
 ·by_cases hb:b ∈ G.map (·.1)
  ·rw [goneH_in hb] at he;cases he
  ·rw [goneH_out hb] at he
   by_cases hbc:b = cb
   ·subst hbc
    rw [getH_here] at he
    cases he
    exact .inl ⟨d,es,hcb,by simp⟩
   ·rw [getH_skipEq hbc] at he
    exact .inl ⟨d',es',he,rfl⟩
 ·by_cases hb:b ∈ G.map (·.1)
  ·rw [goneH_in hb] at h1;cases h1
  ·rw [goneH_out hb] at h1
   by_cases hbc:b = cb
   ·subst hbc
    rw [getH_here] at h1
    rw [hcb] at h2
    cases h1;cases h2
    exact AVles.map1 _ (AVle.ice hS hw hle (fun b q hq => by
     have h1:=hG b q hq
     exact ⟨by rw [hc];exact h1,fun blk o z hρ => hM b q blk o z h1 (goneH_in (getH_in hq)) hρ⟩) k) _
   ·rw [getH_skipEq hbc] at h1
    rw [h1] at h2;cases h2
    exact AVles.keep hle _
theorem ice_sc (G:Hp) (k:Nat) (v:Value):ice G k (.sc v) = .sc v:=by cases k <;> rfl
theorem ice_sl {G:Hp} {k b len:Nat} {e:TypeId} {sz:Nat} {d:AV} {es:List AV} (h:getH G b = some (.row e sz d es)) (hl:es.length = len):ice G (k + 1) (.sl b len) = .im sz .any (es.map (ice G k)):=by
 rw [ice,iceS,h];simp only;rw [if_pos hl]
theorem ice_zero (G:Hp) (l:List AV):l.map (Go.Abs.ice G 0) = l:=by
 have e:ice G 0 = id:=by funext a;rfl
 rw [e,List.map_id]
theorem eraseIdx_mapL {α γ:Type} (f:α→γ):∀ (l:List α) (i:Nat),(l.map f).eraseIdx i = (l.eraseIdx i).map f
 | [],_ => rfl
 | a :: l,0 => rfl
 | a :: l,i + 1 => by simp [eraseIdx_mapL f l i]
structure KeyOf (str:Bool) {κ:Type} [DecidableEq κ] (kf:κ→Value):Prop where
 eq:∀ a b,keq str (kf a) (kf b) = some (decide (a = b))
theorem keyInt:KeyOf false (fun n:Int => Value.int .i64 n):=⟨fun a b => by simp [keq]⟩
theorem keyStr:KeyOf true (fun s:ByteArray => Value.string s):=⟨fun a b => by
 simp only [keq,Option.some.injEq]
 obtain ⟨a⟩:=a
 obtain ⟨b⟩:=b
 show (a == b) = _
 rw [Bool.eq_iff_iff]
 simp⟩
section
variable {κ β:Type} [DecidableEq κ]
def mapE (kf:κ→Value) (vf:β→AV) (E:List (κ × β)):List AV:=E.map fun p => ent (kf p.1) (vf p.2)
def lookE:List (κ × β)→κ→Option β
 | [],_ => none
 | p :: E,k => if k = p.1 then some p.2 else lookE E k
def putE:List (κ × β)→κ→β→List (κ × β)
 | [],k,v => [(k,v)]
 | p :: E,k,v => if k = p.1 then (k,v) :: E else p :: putE E k v
def delE:List (κ × β)→κ→List (κ × β)
 | [],_ => []
 | p :: E,k => if k = p.1 then E else p :: delE E k
theorem mfind_E {str:Bool} {kf:κ→Value} (hk:KeyOf str kf) (vf:β→AV) (k:κ) (v:β):∀ (E:List (κ × β)) (i:Nat),
  (mfind str (kf k) (mapE kf vf E) i = some none∧lookE E k = none∧putE E k v = E ++ [(k,v)]∧delE E k = E) ∨
  ∃ j v0,mfind str (kf k) (mapE kf vf E) i = some (some (i + j,vf v0))∧lookE E k = some v0∧putE E k v = E.set j (k,v)∧delE E k = E.eraseIdx j
 | [],i => .inl ⟨rfl,rfl,rfl,rfl⟩
 | p :: E,i => by
  have e:mfind str (kf k) (mapE kf vf (p :: E)) i = if k = p.1 then some (some (i,vf p.2)) else mfind str (kf k) (mapE kf vf E) (i + 1):=by
   simp only [mapE,List.map_cons,mfind,ent,entA,hk.eq]
   by_cases h:k = p.1 <;> simp [h]
  rw [e,lookE,putE,delE]
  by_cases h:k = p.1
  ·simp only [h,if_true]
   exact .inr ⟨0,p.2,by simp,rfl,by simp,by simp⟩
  ·simp only [h,if_false]
   rcases mfind_E hk vf k v E (i + 1) with ⟨h1,h2,h3,h4⟩|⟨j,v0,h1,h2,h3,h4⟩
   ·exact .inl ⟨h1,h2,by rw [h3];rfl,by rw [h4]⟩
   ·exact .inr ⟨j + 1,v0,by rw [h1];congr 3;omega,h2,by rw [h3];rfl,by rw [h4];rfl⟩
theorem mget_E {str:Bool} {kf:κ→Value} (hk:KeyOf str kf) (vf:β→AV) (k:κ) (E:List (κ × β)) (z:AV):mget str (kf k) (mapE kf vf E) z = some ((lookE E k).elim z vf,(lookE E k).isSome):=by
 unfold mget
 cases E with
 | nil => rfl
 | cons p E =>
  rcases mfind_E hk vf k p.2 (p :: E) 0 with ⟨h1,h2,_⟩|⟨j,v0,h1,h2,_⟩ <;> rw [h1,h2] <;> rfl
theorem mput_E {str:Bool} {kf:κ→Value} (hk:KeyOf str kf) (vf:β→AV) (k:κ) (v:β) (E:List (κ × β)):mput str (kf k) (mapE kf vf E) (vf v) = some (mapE kf vf (putE E k v)):=by
 unfold mput
 rcases mfind_E hk vf k v E 0 with ⟨h1,_,h3,_⟩|⟨j,v0,h1,_,h3,_⟩
 ·rw [h1,h3];simp [mapE,ent]
 ·rw [h1,h3];simp only [mapE,Nat.zero_add,List.map_set];rfl
theorem mdel_E {str:Bool} {kf:κ→Value} (hk:KeyOf str kf) (vf:β→AV) (k:κ) (E:List (κ × β)):mdel str (kf k) (mapE kf vf E) = some (mapE kf vf (delE E k)):=by
 unfold mdel
 cases E with
 | nil => rfl
 | cons p E =>
  rcases mfind_E hk vf k p.2 (p :: E) 0 with ⟨h1,_,_,h4⟩|⟨j,v0,h1,_,_,h4⟩
  ·rw [h1,h4]
  ·rw [h1,h4];simp only [mapE,Nat.zero_add,eraseIdx_mapL]
theorem look_put:∀ (E:List (κ × β)) (k:κ) (v:β) (k':κ),lookE (putE E k v) k' = if k' = k then some v else lookE E k'
 | [],k,v,k' => by simp [putE,lookE]
 | p :: E,k,v,k' => by
  rw [putE]
  by_cases h:k = p.1
  ·rw [if_pos h]
   simp only [lookE]
   by_cases h2:k' = k
   ·simp [h2]
   ·have h3:¬ k' = p.1:=fun e => h2 (by rw [e,h])
    simp [h2,h3]
  ·rw [if_neg h]
   simp only [lookE]
   rw [look_put E k v k']
   by_cases h2:k' = p.1
   ·have h3:¬ k' = k:=fun e => h (by rw [← e,h2])
    simp only [h2,if_true,h3,if_false]
    rw [if_neg (fun e => h e.symm)]
   ·simp [h2]
theorem look_none:∀ (E:List (κ × β)) (k:κ),lookE E k = none ↔ k ∉ E.map Prod.fst
 | [],k => by simp [lookE]
 | p :: E,k => by
  rw [lookE]
  by_cases h:k = p.1
  ·simp [h]
  ·simp [h,look_none E k]
theorem keys_del:∀ (E:List (κ × β)) (k:κ),(E.map Prod.fst).Nodup→(∀ x,x ∈ (delE E k).map Prod.fst ↔ x ≠ k∧x ∈ E.map Prod.fst)∧((delE E k).map Prod.fst).Nodup
 | [],k,_ => by simp [delE]
 | p :: E,k,h => by
  rw [List.map_cons,List.nodup_cons] at h
  rw [delE]
  by_cases hk:k = p.1
  ·rw [if_pos hk]
   refine ⟨fun x => ?_,h.2⟩
   simp only [List.map_cons,List.mem_cons]
   constructor
   ·intro hx;exact ⟨fun e => h.1 (by rw [← hk,← e];exact hx),.inr hx⟩
   ·rintro ⟨h1,h2|h2⟩
    ·exact absurd (h2.trans hk.symm) h1
    ·exact h2
  ·rw [if_neg hk]
   obtain ⟨i1,i2⟩:=keys_del E k h.2
   refine ⟨fun x => ?_,?_⟩
   ·simp only [List.map_cons,List.mem_cons,i1]
    constructor
    ·rintro (h1|h1)
     ·exact ⟨fun e => hk (by rw [← e,h1]),.inl h1⟩
     ·exact ⟨h1.1,.inr h1.2⟩
    ·rintro ⟨h1,h2|h2⟩
     ·exact .inl h2
     ·exact .inr ⟨h1,h2⟩
   ·rw [List.map_cons,List.nodup_cons,i1]
    exact ⟨fun hh => h.1 hh.2,i2⟩
theorem look_del:∀ (E:List (κ × β)) (k k':κ),(E.map Prod.fst).Nodup→lookE (delE E k) k' = if k' = k then none else lookE E k'
 | [],k,k',_ => by simp [delE,lookE]
 | p :: E,k,k',h => by
  rw [List.map_cons,List.nodup_cons] at h
  rw [delE]
  by_cases hk:k = p.1
  ·rw [if_pos hk]
   by_cases h2:k' = k
   ·rw [if_pos h2,look_none,h2,hk];exact h.1
   ·rw [if_neg h2,lookE,if_neg (fun e => h2 (by rw [e,hk]))]
  ·rw [if_neg hk,lookE,lookE,look_del E k k' h.2]
   by_cases h2:k' = p.1
   ·rw [if_pos h2,if_pos h2,if_neg (fun e => hk (by rw [← e,h2]))]
   ·rw [if_neg h2,if_neg h2]
theorem len_del:∀ (E:List (κ × β)) (k:κ),(delE E k).length + (if (lookE E k).isSome = true then 1 else 0) = E.length
 | [],k => by simp [delE,lookE]
 | p :: E,k => by
  rw [delE,lookE]
  by_cases h:k = p.1
  ·simp [h]
  ·simp only [h,if_false,List.length_cons]
   have:=len_del E k
   omega
end
end Go.Abs
end
