import Derived.Test.YtflicfkgbjmffaaGreatM38
section
/- The document's operators. -/
namespace Go.Proofs.YtflicfkgbjmffaaGreat.V
open Go Go.Abs Go.Proofs
set_option linter.unusedSimpArgs false
set_option linter.unusedVariables false
theorem rtruth_pure (t:Bool):Pure Tryz.prog 81 [bl t] (fun r => r = .tup [i64 (tr t),i64 0]):=by
 refine Go.pureL lf81 rfl ?_
 repeat' (first|((with_reducible refine Go.red ?_);conv => whnf)|refine aG ?_|exact aC|with_reducible refine Go.and ?_ ?_|(apply Go.elem;(·exact aElem))|refine aH ?_|((with_reducible refine Go.bool ?_ ?_) <;> intro hc <;> (try simp only [List.length_map,ne_eq,hcs] at hc) <;> try (exfalso;omega)))
 all_goals simp_all [tr]
theorem rquot_pure (a b:Int):Pure Tryz.prog 82 [i64 a,i64 b] (fun r => r = i64 (quoW a b)):=by
 refine Go.pureL lf82 rfl ?_
 repeat' (first|((with_reducible refine Go.red ?_);conv => whnf)|refine aG ?_|exact aC|with_reducible refine Go.and ?_ ?_|(apply Go.elem;(·exact aElem))|refine aH ?_|((with_reducible refine Go.bool ?_ ?_) <;> intro hc <;> (try simp only [List.length_map,ne_eq,hcs] at hc) <;> try (exfalso;omega)))
 all_goals simp_all [quoW]
theorem and63 (x:BitVec 64):(x &&& BitVec.ofInt 64 63).toNat < 64:=by
 rw [BitVec.toNat_and,show (BitVec.ofInt 64 63).toNat = 63 by decide]
 exact Nat.lt_of_le_of_lt Nat.and_le_right (by decide)
theorem cnt_eq (b:Int):IntKind.u64.wrap (w64 ((BitVec.ofInt 64 b &&& BitVec.ofInt 64 63).toNat:Int)) = cntW b:=by
 have e:BitVec.ofInt 64 (IntKind.u64.wrap b) = BitVec.ofInt 64 b:=by
  apply BitVec.eq_of_toInt_eq
  simp only [BitVec.toInt_ofInt]
  show Int.bmod (b % 18446744073709551616) (2 ^ 64) = Int.bmod b (2 ^ 64)
  exact Int.emod_bmod b 18446744073709551616
 rw [cntW,e]
 have h:=and63 (BitVec.ofInt 64 b)
 congr 1
 generalize (BitVec.ofInt 64 b &&& BitVec.ofInt 64 63).toNat = y at h
 show IntKind.i64.wrap _ = _
 exact wrap64 (by omega) (by omega)
theorem cntW_pos (b:Int):0 ≤ cntW b:=by
 rw [← cnt_eq]
 exact Int.emod_nonneg _ (by decide)
theorem rDo_two (op a b:Int) (h:two op = true):Pure Tryz.prog 58 [u8 op,i64 a,i64 b] (fun r => r = .tup [i64 (twoW op a b),i64 0]):=by
 refine Go.pureL lf58 rfl ?_
 rcases two_cases h with rfl|rfl|rfl|rfl|rfl|rfl|rfl|rfl|rfl|rfl|rfl|rfl|rfl|rfl|rfl|rfl
 all_goals repeat' (first|((with_reducible refine Go.red ?_);conv => whnf)|refine aG ?_|exact aC|with_reducible refine Go.and ?_ ?_|(apply Go.elem;(·exact aElem))|((with_reducible refine Go.callW (rtruth_pure _) ?_ ?_);(·exact aFit))|((with_reducible refine Go.callJ (fun _ => rtruth_pure _) ?_ ?_);(·exact aFit))|((with_reducible refine Go.callE (rtruth_pure _) ?_ ?_);(·exact aFit))|((with_reducible refine Go.callF (fun _ => rtruth_pure _) ?_ ?_);(·exact aFit))|((with_reducible refine Go.callW (rquot_pure _ _) ?_ ?_);(·exact aFit))|((with_reducible refine Go.callJ (fun _ => rquot_pure _ _) ?_ ?_);(·exact aFit))|((with_reducible refine Go.callE (rquot_pure _ _) ?_ ?_);(·exact aFit))|((with_reducible refine Go.callF (fun _ => rquot_pure _ _) ?_ ?_);(·exact aFit))|refine aH ?_|((with_reducible refine Go.bool ?_ ?_) <;> intro hc <;> (try simp only [List.length_map,ne_eq,hcs] at hc) <;> try (exfalso;omega)))
 all_goals (first|exact rfl|(refine ⟨?_⟩;show 0 ≤ IntKind.u64.wrap (w64 ((BitVec.ofInt 64 b &&& BitVec.ofInt 64 63).toNat:Int));rw [cnt_eq];exact cntW_pos b)|skip)
 ·rw [show twoW 5 a b = remW a b from rfl,remW,if_pos (by assumption)]
 ·rw [show twoW 5 a b = remW a b from rfl,remW,if_neg (by assumption)]
 ·rw [show twoW 9 a b = shlW a b from rfl,shlW,← cnt_eq];rfl
 ·rw [show twoW 10 a b = shrW a b from rfl,shrW,← cnt_eq];rfl
theorem rOne_one (op a:Int) (h:op = 17 ∨ op = 18):Pure Tryz.prog 57 [u8 op,i64 a] (fun r => r = .tup [i64 (oneW op a),i64 0]):=by
 refine Go.pureL lf57 rfl ?_
 rcases h with rfl|rfl
 all_goals repeat' (first|((with_reducible refine Go.red ?_);conv => whnf)|refine aG ?_|exact aC|with_reducible refine Go.and ?_ ?_|(apply Go.elem;(·exact aElem))|((with_reducible refine Go.callW (rtruth_pure _) ?_ ?_);(·exact aFit))|((with_reducible refine Go.callJ (fun _ => rtruth_pure _) ?_ ?_);(·exact aFit))|((with_reducible refine Go.callE (rtruth_pure _) ?_ ?_);(·exact aFit))|((with_reducible refine Go.callF (fun _ => rtruth_pure _) ?_ ?_);(·exact aFit))|refine aH ?_|((with_reducible refine Go.bool ?_ ?_) <;> intro hc <;> (try simp only [List.length_map,ne_eq,hcs] at hc) <;> try (exfalso;omega)))
 all_goals (first|exact rfl|trace_state)
theorem rOne_not (op a:Int) (h:op ≠ 17) (h2:op ≠ 18):Pure Tryz.prog 57 [u8 op,i64 a] (fun r => r = .tup [i64 0,i64 2]):=by
 refine Go.pureL lf57 rfl ?_
 repeat' (first|((with_reducible refine Go.red ?_);conv => whnf)|refine aG ?_|exact aC|with_reducible refine Go.and ?_ ?_|(apply Go.elem;(·exact aElem))|((with_reducible refine Go.callW (rtruth_pure _) ?_ ?_);(·exact aFit))|((with_reducible refine Go.callJ (fun _ => rtruth_pure _) ?_ ?_);(·exact aFit))|((with_reducible refine Go.callE (rtruth_pure _) ?_ ?_);(·exact aFit))|((with_reducible refine Go.callF (fun _ => rtruth_pure _) ?_ ?_);(·exact aFit))|refine aH ?_|((with_reducible refine Go.bool ?_ ?_) <;> intro hc <;> (try simp only [List.length_map,ne_eq,hcs] at hc) <;> try (exfalso;omega)))
 exact rfl
theorem rOne_any (op a:Int):Pure Tryz.prog 57 [u8 op,i64 a] (fun r => r = .tup [i64 (if op = 17 ∨ op = 18 then oneW op a else 0),i64 (if op = 17 ∨ op = 18 then 0 else 2)]):=by
 by_cases h:op = 17 ∨ op = 18
 ·simp only [if_pos h];exact rOne_one op a h
 ·simp only [if_neg h];exact rOne_not op a (fun h1 => h (.inl h1)) (fun h1 => h (.inr h1))
end Go.Proofs.YtflicfkgbjmffaaGreat.V
end
section
/- The document's machine runs. -/
namespace Go.Proofs.YtflicfkgbjmffaaGreat.V
open Go Go.Abs Go.Proofs
set_option linter.unusedSimpArgs false
set_option linter.unusedVariables false
abbrev outAv (o:Obj) (x:Mach × DidS × Int):AV:=.tup [stAv o x.1,x.2.1.av,i64 x.2.2]
theorem frz_coreG {H:Hp} {b:Nat} {d:AV} {c:CoreS} (k:Nat) (h:getH H b = some (.row 135 3 d (c.buf.map StoreS.av))):Abs.frz H (k + 3) (c.av b) = c.frozen:=by
 simp only [CoreS.av,Abs.frz,CoreS.cells,List.map_cons,List.map_nil,frz_sc,h]
 rw [if_pos (by simp),frz_same (k + 1) (by simp [fitL_map,fitA,fitL])]
 rfl
theorem frz_coreK {H:Hp} {b:Nat} {d:AV} {c:CoreS} (h:getH H b = some (.row 135 3 d (c.buf.map StoreS.av))):Abs.frz H 3 (c.av b) = c.frozen:=frz_coreG 0 h
theorem set_frz {s:Mach} {B:List Nat} {H:Hp} {q:Nat} {x:AV} {c:CoreS} (hl:B.length = s.cores.length) (hx:Abs.frz H 3 x = c.frozen) (hB:∀ j,j < s.cores.length→j ≠ q→∃ d,getH H (B.getD j 0) = some (.row 135 3 d ((s.core j).buf.map StoreS.av))):((mixed s B).set q x).map (Abs.frz H 3) = (s.cores.set q c).map CoreS.frozen:=by
 apply List.ext_getElem
 ·simp [mixed,hl]
 ·intro i h1 h2
  have hi:i < s.cores.length:=by simpa using h2
  have hib:i < B.length:=by rw [hl];exact hi
  simp only [List.getElem_map,List.getElem_set,mixed,List.getElem_zipWith]
  by_cases he:q = i
  ·simp [he,hx]
  ·simp only [he,if_false]
   obtain ⟨d,hd⟩:=hB i hi (Ne.symm he)
   have e1:B.getD i 0 = B[i]:=by simp [List.getD,hib]
   have e2:s.core i = s.cores[i]:=by simp [List.getD,hi]
   rw [e1,e2] at hd
   exact frz_coreK hd
theorem out_frz {o:Obj} {s:Mach} {H:Hp} {c m p n k l:Nat} (j:Nat) {d1 d2 d3:AV} {es:List AV} (hc:getH H c = some (.row 126 19 d1 es)) (hl:es.length = n) (hes:es.map (Abs.frz H (j + 3)) = s.cores.map CoreS.frozen) (hm:getH H m = some (.row 2 1 d2 (s.mem.map i64))) (hk:(s.mem.map i64).length = k) (hp:getH H p = some (.row 137 2 d3 (s.prints.map PrintS.av))) (hl2:(s.prints.map PrintS.av).length = l) :
  List.map (Abs.frz H (j + 4)) [.im 1 .any (o.mem.map i64),i64 o.shared,i64 o.locks,i64 o.buffer,.im 2 .any (o.cores.map Core.av),.sl c n,.sl m k,.sl p l] = [.im 1 .any (o.mem.map i64),i64 o.shared,i64 o.locks,i64 o.buffer,.im 2 .any (o.cores.map Core.av),.im 19 .any (s.cores.map CoreS.frozen),.im 1 .any (s.mem.map i64),.im 2 .any (s.prints.map PrintS.av)]:=by
 simp only [List.map_cons,List.map_nil,frz_sl (k:=j + 3) hc hl,frz_sl (k:=j + 3) hm hk,frz_sl (k:=j + 3) hp hl2,hes,frz_sc]
 rw [frz_same (j + 3) (by simp [fitL_map,fitA]),frz_same (j + 3) (by simp [fitL_map,fitA,fitL])]
 rw [frz_fit (j + 4) (by simp [fitA,fitL,fitL_map]),frz_fit (j + 4) (by simp [fitA,fitL,fitL_map])]
theorem mixed_frz {s:Mach} {B:List Nat} {H:Hp} (k:Nat) (hl:B.length = s.cores.length) (hB:∀ j,j < s.cores.length→∃ d,getH H (B.getD j 0) = some (.row 135 3 d ((s.core j).buf.map StoreS.av))):(mixed s B).map (Abs.frz H (k + 3)) = s.cores.map CoreS.frozen:=by
 apply List.ext_getElem
 ·simp [mixed,hl]
 ·intro i h1 h2
  have hi:i < s.cores.length:=by simpa using h2
  have hib:i < B.length:=by rw [hl];exact hi
  simp only [List.getElem_map,mixed,List.getElem_zipWith]
  obtain ⟨d,hd⟩:=hB i hi
  have e1:B.getD i 0 = B[i]:=by simp [List.getD,hib]
  have e2:s.core i = s.cores[i]:=by simp [List.getD,hi]
  rw [e1,e2] at hd
  exact frz_coreG k hd
theorem seen_args {o:Obj} {s:Mach} {K:RLay} {H:Hp} {c:CoreS} {b:Nat} {a:AV} {d1 d2 d3 d4:AV} (hl:K.bufs.length = s.cores.length) (hc:getH H K.c = some (.row 126 19 d1 (mixed s K.bufs))) (hm:getH H K.mem = some (.row 2 1 d2 (s.mem.map i64))) (hp:getH H K.pr = some (.row 137 2 d3 (s.prints.map PrintS.av)))
  (hB:∀ j,j < s.cores.length→∃ d,getH H (K.bufs.getD j 0) = some (.row 135 3 d ((s.core j).buf.map StoreS.av))) (hb:getH H b = some (.row 135 3 d4 (c.buf.map StoreS.av))) (ha:Abs.frz H 6 a = a) :
  List.map (Abs.frz H 6) [.agg [.im 1 .any (o.mem.map i64),i64 o.shared,i64 o.locks,i64 o.buffer,.im 2 .any (o.cores.map Core.av),.sl K.c s.cores.length,.sl K.mem s.mem.length,.sl K.pr s.prints.length],.agg (c.cells (.sl b c.buf.length)),a] = [stAv o s,c.frozen,a]:=by
 have h1:Abs.frz H 6 (.agg (c.cells (.sl b c.buf.length))) = c.frozen:=frz_coreG 3 hb
 have h2:=out_frz (o:=o) (s:=s) 1 hc (mixed_len hl) (mixed_frz 1 hl hB) hm (List.length_map ..) hp (List.length_map ..)
 simp only [List.map_cons,List.map_nil,ha,h1]
 exact congrArg (fun z => [AV.agg z,c.frozen,a]) h2
theorem allOne_set {y:AV} (h2:one y = true):∀ {es:List AV} {i:Nat},allOne es = true→allOne (es.set i y) = true
 | [],_,h => h
 | x :: t,0,h => by simp only [allOne,Bool.and_eq_true,List.set] at h ⊢;exact ⟨h2,h.2⟩
 | x :: t,i + 1,h => by simp only [allOne,Bool.and_eq_true,List.set] at h ⊢;exact ⟨h.1,allOne_set h2 h.2⟩
theorem aOne {p:Prop} (h:p:=by repeat (first|(refine allOne_set rfl ?_)|exact rfl)):p:=h
theorem st_core {x:List AV} {ys:List AV} (hl:ys.length = 19) (ho:allOne ys = true):stE true 19 (.agg x) (.agg ys) 19 0 = some (.agg ys):=by
 simp [stE,hl,ho]
theorem fin_out {o:Obj} {s:Mach} {K:RLay} {H:Hp} {q:Nat} {x:AV} {c:CoreS} {b:Nat} {mem:List Int} {pr:List PrintS} {did:DidS} {dd:List AV} {dc:AV} {k l:Nat}
  (hBl:K.bufs.length = s.cores.length)
  (hc:getH H K.c = some (.row 126 19 dc ((mixed s K.bufs).set q x)))
  (hx:x = c.av b) (hb:∃ d es,getH H b = some (.row 135 3 d es)∧es = c.buf.map StoreS.av)
  (hB:∀ j,j < s.cores.length→j ≠ q→∃ d,getH H (K.bufs.getD j 0) = some (.row 135 3 d ((s.core j).buf.map StoreS.av)))
  (hm:∃ d es,getH H K.mem = some (.row 2 1 d es)∧es = mem.map i64) (hk:mem.length = k) (hp:∃ d es,getH H K.pr = some (.row 137 2 d es)∧es = pr.map PrintS.av) (hl:pr.length = l) (hd:AV.agg dd = did.av) :
  AV.tup [AV.agg (List.map (Abs.frz H 4) [.im 1 .any (o.mem.map i64),i64 o.shared,i64 o.locks,i64 o.buffer,.im 2 .any (o.cores.map Core.av),.sl K.c s.cores.length,.sl K.mem k,.sl K.pr l]),AV.agg (List.map (Abs.frz H 4) dd),i64 0] = outAv o ({ s.setCore q c with mem:=mem,prints:=pr },did,0):=by
 obtain ⟨d1,es1,hm,rfl⟩:=hm
 obtain ⟨d2,es2,hp,rfl⟩:=hp
 obtain ⟨d3,es3,hb,rfl⟩:=hb
 subst hx
 have h1:=out_frz (o:=o) (s:={ s.setCore q c with mem:=mem,prints:=pr }) 0 (n:=s.cores.length) (k:=k) (l:=l) hc (by simp [mixed_len hBl]) (set_frz hBl (frz_coreK hb) hB) hm (by simp [hk]) hp (by simp [hl])
 have h2:List.map (Abs.frz H 4) dd = dd:=frz_same 4 (by injection hd with hd;rw [hd];simp [fitL,fitA])
 rw [h2,hd]
 exact congrArg (fun z => AV.tup [AV.agg z,did.av,i64 0]) h1
theorem fin_rows {s:Mach} {K:RLay} {H H2:Hp} {q:Nat} (hbufs:∀ i,i < s.cores.length→∃ d,getH H (K.bufs.getD i 0) = some (.row 135 3 d ((s.core i).buf.map StoreS.av))) (hk:∀ i,i < s.cores.length→i ≠ q→getH H2 (K.bufs.getD i 0) = getH H (K.bufs.getD i 0)):∀ j,j < s.cores.length→j ≠ q→∃ d,getH H2 (K.bufs.getD j 0) = some (.row 135 3 d ((s.core j).buf.map StoreS.av)):=by
 intro j h1 h2
 obtain ⟨d,h⟩:=hbufs j h1
 exact ⟨d,(hk j h1 h2).trans h⟩
theorem act1 {s:Mach} {q:Nat} {i:Instr} {d:DidS} (h:i.kind = 1):act s q i d = doSet s q i d:=by simp [act,h]
theorem act2 {s:Mach} {q:Nat} {i:Instr} {d:DidS} (h:i.kind = 2):act s q i d = doOp s q i d:=by simp [act,h]
theorem act3 {s:Mach} {q:Nat} {i:Instr} {d:DidS} (h:i.kind = 3):act s q i d = doLoad s q i d:=by simp [act,h]
theorem act4 {s:Mach} {q:Nat} {i:Instr} {d:DidS} (h:i.kind = 4):act s q i d = doStore s q i d:=by simp [act,h]
theorem act5 {s:Mach} {q:Nat} {i:Instr} {d:DidS} (h:i.kind = 5):act s q i d = doSwap s q i d:=by simp [act,h]
theorem act6 {s:Mach} {q:Nat} {i:Instr} {d:DidS} (h:i.kind = 6):act s q i d = doFence s q i d:=by simp [act,h]
theorem act7 {s:Mach} {q:Nat} {i:Instr} {d:DidS} (h:i.kind = 7):act s q i d = doPrint s q i d:=by simp [act,h]
theorem act8 {s:Mach} {q:Nat} {i:Instr} {d:DidS} (h:i.kind = 8):act s q i d = doJump s q i d:=by simp [act,h]
theorem act9 {s:Mach} {q:Nat} {i:Instr} {d:DidS} (h:i.kind = 9):act s q i d = doZero s q i d:=by simp [act,h]
theorem act10 {s:Mach} {q:Nat} {i:Instr} {d:DidS} (h:i.kind = 10):act s q i d = doHalt s q i d:=by simp [act,h]
theorem op17 {i:Instr} {code mem:Int} (h:ActOk i code mem) (h2:i.kind = 2) (ht:two i.op = false):i.op = 17 ∨ i.op = 18:=by
 have:=h.op h2
 simp only [two,Bool.and_eq_false_iff,decide_eq_false_iff_not] at ht
 omega
theorem flat2 (a b:Value):flatR (.tup [.sc a,.sc b]):=by
 intro x hx
 simp only [List.mem_cons,List.not_mem_nil,or_false] at hx
 rcases hx with rfl|rfl <;> exact .inl ⟨_,rfl⟩
theorem oneD {i:Instr} {code mem a b:Int} (h:ActOk i code mem) (h2:i.kind = 2) (ht:two i.op = false):(if i.op = 17 ∨ i.op = 18 then oneW i.op a else 0) = opW i.op a b:=by
 rw [if_pos (op17 h h2 ht),opW,ht];rfl
theorem seen_rows {s:Mach} {K:RLay} {H H2:Hp} {n:Nat} (hbufs:∀ i,i < s.cores.length→∃ d,getH H (K.bufs.getD i 0) = some (.row 135 3 d ((s.core i).buf.map StoreS.av)))
  (hall:∀ j,j < s.cores.length→K.bufs.getD j 0 ≠ K.c∧K.bufs.getD j 0 ≠ K.mem∧K.bufs.getD j 0 ≠ K.pr∧4 ≤ K.bufs.getD j 0∧K.bufs.getD j 0 < n) (hk:∀ b,b ≠ K.c→b ≠ K.mem→b ≠ K.pr→4 ≤ b→b < n→getH H2 b = getH H b):∀ j,j < s.cores.length→∃ d,getH H2 (K.bufs.getD j 0) = some (.row 135 3 d ((s.core j).buf.map StoreS.av)):=by
 intro j hj
 obtain ⟨d,h⟩:=hbufs j hj
 obtain ⟨g1,g2,g3,g4,g5⟩:=hall j hj
 exact ⟨d,(hk _ g1 g2 g3 g4 g5).trans h⟩
theorem pc_set (c:CoreS) (v w:AV) (k:Nat):((c.cells v).set (0 + 2 + k * 1) w).getD (0 + 0) .any = i64 c.pc:=by
 rw [show 0 + 2 + k * 1 = (k + 1) + 1 by omega];rfl
theorem out_act {o:Obj} {s s2:Mach} {q:Nat} {i:Instr} {d d2:DidS} {r:AV} (h:r = outAv o (s2,d2,0)) (ha:act s q i d = (s2,d2)):r = outAv o ((act s q i d).1,(act s q i d).2,0):=by rw [ha];exact h
theorem put_cells2 (c:CoreS) (v:AV) (k:Int) (w p:Int) (h:0 ≤ k∧k < 16):((c.cells v).set (2 + k.toNat * 1) (i64 w)).set 0 (i64 p) = (CoreS.put { c with pc:=p } k w).cells v:=by
 rw [put_cells _ _ _ _ h];rfl
end Go.Proofs.YtflicfkgbjmffaaGreat.V
end
section
/- The document's machine runs: the first kinds. -/
namespace Go.Proofs.YtflicfkgbjmffaaGreat.V
open Go Go.Abs Go.Proofs
set_option linter.unusedSimpArgs false
set_option linter.unusedVariables false
set_option maxHeartbeats 8000000 in
theorem rrun_lo {o:Obj} {s:Mach} (g:Good o s) (ok:ObjOk o) (hpl:(s.prints.length + 1) * 16 ≤ 140737488355328) (q:Nat) (hq:q < s.cores.length) (hkk:1 ≤ ((o.cores.getD q default).code.getD (s.core q).pc.toNat default).kind∧((o.cores.getD q default).code.getD (s.core q).pc.toNat default).kind ≤ 4):Pure Tryz.prog 31 [stAv o s,i64 q] (fun r => r = outAv o (runS o s q)):=by
 refine Go.pureL lf31 rfl ?_
 have hk:¬ out s q:=by unfold out;omega
 rw [runS,if_neg hk,Int.toNat_natCast]
 have hqo:q < o.cores.length:=by rw [← g.n];exact hq
 have hpc:=g.pc q hq
 have hpc2:(s.core q).pc.toNat < (o.core q).code.length:=by omega
 have hpc3:0 ≤ (s.core q).pc:=hpc.1
 have hcode:=ok.code q hqo
 have hW:=waits_pure g ok q hq
 repeat' (first|((with_reducible refine Go.red ?_);conv => whnf)|refine aG ?_|exact aC|with_reducible refine Go.and ?_ ?_|(apply Go.elem;(·(first|exact frozen_at hq _|exact aElem)))|refine aK (hW) ?_|refine aH ?_|((with_reducible refine Go.bool ?_ ?_) <;> intro hc <;> (try simp only [List.length_map,ne_eq,hcs] at hc) <;> try (exfalso;omega)))
 ·rw [if_pos hc]
  show AV.tup [AV.agg (List.map (Abs.frz _ 4) _),AV.agg (List.map (Abs.frz _ 4) _),_] = _
  rw [frz_same 4 (by simp [fitL,fitA,fitL_map]),frz_same 4 (by simp [fitL,fitA])]
  rfl
 ·rw [if_neg (fun hx => Bool.noConfusion (hx.symm.trans (show (s.core q).halted = false by assumption))),if_pos hc]
  show AV.tup [AV.agg (List.map (Abs.frz _ 4) _),AV.agg (List.map (Abs.frz _ 4) _),_] = _
  rw [frz_same 4 (by simp [fitL,fitA,fitL_map]),frz_same 4 (by simp [fitL,fitA])]
  rfl
 rw [if_neg (fun hx => Bool.noConfusion (hx.symm.trans (show (s.core q).halted = false by assumption))),if_neg (fun hx => Bool.noConfusion (hx.symm.trans hc))]
 refine Go.callN (copy_call o (g.lookable ok (by omega)) (by omega)) ?_
 rintro _ H2 n2 ⟨K,rfl,hR,hn2,hf2⟩
 have hn3:4 ≤ n2:=Nat.le_trans aNx hn2
 have iok:ActOk (instrAt o s q) (o.core q).code.length o.mem.length:=instrOk_act (ok.ok q hqo (s.core q).pc.toNat (by omega))
 have r0:∃ d e,getH H2 0 = some (.row 58 8 d [.agg e])∧e.length = 8:=⟨_,_,(hf2 0 aNx).trans aRow,rfl⟩
 obtain ⟨d0,e0,r0,he0⟩:=r0
 have r1:∃ d e,getH H2 1 = some (.row 58 8 d [.agg e])∧e.length = 8:=⟨_,_,(hf2 1 aNx).trans aRow,rfl⟩
 obtain ⟨d1,e1,r1,he1⟩:=r1
 have r2:∃ d e,getH H2 2 = some (.row 62 7 d [.agg e])∧e.length = 7:=⟨_,_,(hf2 2 aNx).trans aRow,rfl⟩
 obtain ⟨d2,e2,r2,he2⟩:=r2
 clear hf2
 obtain ⟨⟨dc,rc⟩,⟨dm,rm⟩,⟨dp,rp⟩,hbufs,hBl,hlt,hnd⟩:=hR
 obtain ⟨db,rb⟩:=hbufs q hq
 have hqB:q < K.bufs.length:=by rw [hBl];exact hq
 have hbm:K.bufs.getD q 0 ∈ K.bufs:=getD_mem hqB
 have lc:=hlt K.c (by simp [RLay.ids])
 have lm:=hlt K.mem (by simp [RLay.ids])
 have lp:=hlt K.pr (by simp [RLay.ids])
 have lb:=hlt (K.bufs.getD q 0) (by simp only [RLay.ids,List.mem_cons];exact .inr (.inr (.inr hbm)))
 have hnd2:=hnd
 simp only [RLay.ids,List.nodup_cons,List.mem_cons,not_or] at hnd2
 obtain ⟨⟨acm,acp,acb⟩,⟨amp,amb⟩,apb,_⟩:=hnd2
 have acb2:K.c ≠ K.bufs.getD q 0:=fun h => acb (h ▸ hbm)
 have amb2:K.mem ≠ K.bufs.getD q 0:=fun h => amb (h ▸ hbm)
 have apb2:K.pr ≠ K.bufs.getD q 0:=fun h => apb (h ▸ hbm)
 have hall:∀ j,j < s.cores.length→K.bufs.getD j 0 ≠ K.c∧K.bufs.getD j 0 ≠ K.mem∧K.bufs.getD j 0 ≠ K.pr∧4 ≤ K.bufs.getD j 0∧K.bufs.getD j 0 < n2:=by
  intro j hj
  have hm:K.bufs.getD j 0 ∈ K.bufs:=getD_mem (by rw [hBl];exact hj)
  have h9:=hlt (K.bufs.getD j 0) (by simp only [RLay.ids,List.mem_cons];exact .inr (.inr (.inr hm)))
  exact ⟨fun h => acb (h ▸ hm),fun h => amb (h ▸ hm),fun h => apb (h ▸ hm),by omega,h9.2⟩
 have hoth:∀ j,j < s.cores.length→j ≠ q→K.bufs.getD j 0 ≠ K.bufs.getD q 0:=by
  intro j hj hne he
  have h9:K.bufs.Nodup:=by assumption
  have hjB:j < K.bufs.length:=by rw [hBl];exact hj
  rcases Nat.lt_or_gt_of_ne hne with h|h
  ·exact List.pairwise_iff_getElem.1 h9 j q hjB hqB h (by simpa [List.getD,hjB,hqB] using he)
  ·exact List.pairwise_iff_getElem.1 h9 q j hqB hjB h (by simpa [List.getD,hjB,hqB] using he.symm)
 have hml:=mixed_len hBl
 have hk10:=kinds iok.kind
 clear hlt hnd acb amb apb hbm hW
 have id:0 ≤ ((o.cores.getD ((q:Int).toNat) default).code.getD (s.core q).pc.toNat default).d∧((o.cores.getD ((q:Int).toNat) default).code.getD (s.core q).pc.toNat default).d < 16:=iok.d
 have ia:0 ≤ ((o.cores.getD ((q:Int).toNat) default).code.getD (s.core q).pc.toNat default).a∧((o.cores.getD ((q:Int).toNat) default).code.getD (s.core q).pc.toNat default).a < 16:=iok.a
 have ib:0 ≤ ((o.cores.getD ((q:Int).toNat) default).code.getD (s.core q).pc.toNat default).b∧((o.cores.getD ((q:Int).toNat) default).code.getD (s.core q).pc.toNat default).b < 16:=iok.b
 have hbl:(s.core q).buf.length < 1000:=by have:=g.buf q hq;have:=ok.buffer;omega
 have had:((o.cores.getD q default).code.getD (s.core q).pc.toNat default).kind = 3 ∨ ((o.cores.getD q default).code.getD (s.core q).pc.toNat default).kind = 4 ∨ ((o.cores.getD q default).code.getD (s.core q).pc.toNat default).kind = 5→0 ≤ ((o.cores.getD ((q:Int).toNat) default).code.getD (s.core q).pc.toNat default).addr∧((o.cores.getD ((q:Int).toNat) default).code.getD (s.core q).pc.toNat default).addr < s.mem.length:=by rw [g.mem];exact iok.addr
 repeat' (first|((with_reducible refine Go.red ?_);conv => whnf)|refine aG ?_|exact aC|with_reducible refine Go.and ?_ ?_|(apply Go.elem;(·(first|exact mixed_at hBl hq _|exact getD_av _ _ _ _ hpc2|exact reg_at _ _ _ iok.d|exact reg_at _ _ _ iok.a|exact reg_at _ _ _ iok.b|exact pc_set _ _ _ _|exact aElem)))|(apply Go.gives;(·exact st_core (by simp [CoreS.cells]) aOne))|((with_reducible refine Go.callW (rtwo_pure _) ?_ ?_);(·exact aFit))|((with_reducible refine Go.callJ (fun _ => rtwo_pure _) ?_ ?_);(·exact aFit))|((with_reducible refine Go.callE (rtwo_pure _) ?_ ?_);(·exact aFit))|((with_reducible refine Go.callF (fun _ => rtwo_pure _) ?_ ?_);(·exact aFit))|((with_reducible refine Go.callW (rDo_two _ _ _ (by simp only [Int.toNat_natCast];exact hc)) ?_ ?_);(·exact aFit))|((with_reducible refine Go.callJ (fun _ => rDo_two _ _ _ (by simp only [Int.toNat_natCast];exact hc)) ?_ ?_);(·exact aFit))|((with_reducible refine Go.callE (rDo_two _ _ _ (by simp only [Int.toNat_natCast];exact hc)) ?_ ?_);(·exact aFit))|((with_reducible refine Go.callF (fun _ => rDo_two _ _ _ (by simp only [Int.toNat_natCast];exact hc)) ?_ ?_);(·exact aFit))|((with_reducible refine Go.callW (rOne_any _ _) ?_ ?_);(·exact aFit))|((with_reducible refine Go.callJ (fun _ => rOne_any _ _) ?_ ?_);(·exact aFit))|((with_reducible refine Go.callE (rOne_any _ _) ?_ ?_);(·exact aFit))|((with_reducible refine Go.callF (fun _ => rOne_any _ _) ?_ ?_);(·exact aFit))|(refine Go.view (seen_pure o s (s.core q) _ (had (.inl hc)) hbl) ?_ ?_ ?_ ?_;(·exact seen_args hBl aRow aRow aRow (seen_rows hbufs hall (by intro b h1 h2 h3 h4 h5;exact aSkip)) aRow (frz_sc _ _ _));(·simp [fitL,fitA,CoreS.cells,fitL_map]);(·exact flat2 _ _))|refine aH ?_|((with_reducible refine Go.bool ?_ ?_) <;> intro hc <;> (try simp only [List.length_map,ne_eq,hcs] at hc) <;> try (exfalso;omega)))
 ·refine out_act (fin_out (q:=q) (c:=CoreS.put { s.core q with pc:=(s.core q).pc + 1 } (instrAt o s q).d (instrAt o s q).word) (b:=K.bufs.getD q 0) (mem:=s.mem) (pr:=s.prints) (did:=⟨1,q,(s.core q).pc,0,0,0,false⟩) hBl aRow (by rw [CoreS.av,← put_cells2 _ _ _ _ _ iok.d];rfl) ⟨_,_,aRow,rfl⟩ (fin_rows hbufs (fun j h1 h2 => ?_)) ⟨_,_,aRow,rfl⟩ rfl ⟨_,_,aRow,rfl⟩ rfl rfl) ?_
  ·obtain ⟨g1,g2,g3,g4,g5⟩:=hall j h1;have g6:=hoth j h1 h2;exact aSkip
  ·rw [act1 (i:=instrAt o s q) (by assumption),doSet,inc_set,inc_core hq];rfl
 ·refine out_act (fin_out (q:=q) (c:=CoreS.put { s.core q with pc:=(s.core q).pc + 1 } (instrAt o s q).d (opW (instrAt o s q).op ((s.core q).reg (instrAt o s q).a.toNat) ((s.core q).reg (instrAt o s q).b.toNat))) (b:=K.bufs.getD q 0) (mem:=s.mem) (pr:=s.prints) (did:=⟨1,q,(s.core q).pc,0,0,0,false⟩) hBl aRow (by rw [CoreS.av,← put_cells2 _ _ _ _ _ iok.d,opW,if_pos (by assumption)];rfl) ⟨_,_,aRow,rfl⟩ (fin_rows hbufs (fun j h1 h2 => ?_)) ⟨_,_,aRow,rfl⟩ rfl ⟨_,_,aRow,rfl⟩ rfl rfl) ?_
  ·obtain ⟨g1,g2,g3,g4,g5⟩:=hall j h1;have g6:=hoth j h1 h2;exact aSkip
  ·rw [act2 (i:=instrAt o s q) (by assumption),doOp,inc_set,inc_core hq];rfl
 ·refine out_act (fin_out (q:=q) (c:=CoreS.put { s.core q with pc:=(s.core q).pc + 1 } (instrAt o s q).d (opW (instrAt o s q).op ((s.core q).reg (instrAt o s q).a.toNat) ((s.core q).reg (instrAt o s q).b.toNat))) (b:=K.bufs.getD q 0) (mem:=s.mem) (pr:=s.prints) (did:=⟨1,q,(s.core q).pc,0,0,0,false⟩) hBl aRow (by rw [CoreS.av,← put_cells2 _ _ _ _ _ iok.d,← oneD iok (by assumption) (by assumption)];rfl) ⟨_,_,aRow,rfl⟩ (fin_rows hbufs (fun j h1 h2 => ?_)) ⟨_,_,aRow,rfl⟩ rfl ⟨_,_,aRow,rfl⟩ rfl rfl) ?_
  ·obtain ⟨g1,g2,g3,g4,g5⟩:=hall j h1;have g6:=hoth j h1 h2;exact aSkip
  ·rw [act2 (i:=instrAt o s q) (by assumption),doOp,inc_set,inc_core hq];rfl
 ·refine out_act (fin_out (q:=q) (c:=CoreS.put { s.core q with pc:=(s.core q).pc + 1 } (instrAt o s q).d (seenF (instrAt o s q).addr (s.core q).buf (s.mem.getD (instrAt o s q).addr.toNat 0,false)).1) (b:=K.bufs.getD q 0) (mem:=s.mem) (pr:=s.prints) (did:=⟨2,q,(s.core q).pc,(instrAt o s q).addr,(seenF (instrAt o s q).addr (s.core q).buf (s.mem.getD (instrAt o s q).addr.toNat 0,false)).1,0,(seenF (instrAt o s q).addr (s.core q).buf (s.mem.getD (instrAt o s q).addr.toNat 0,false)).2⟩) hBl aRow (by rw [CoreS.av,← put_cells2 _ _ _ _ _ iok.d];rfl) ⟨_,_,aRow,rfl⟩ (fin_rows hbufs (fun j h1 h2 => ?_)) ⟨_,_,aRow,rfl⟩ rfl ⟨_,_,aRow,rfl⟩ rfl rfl) ?_
  ·obtain ⟨g1,g2,g3,g4,g5⟩:=hall j h1;have g6:=hoth j h1 h2;exact aSkip
  ·rw [act3 (i:=instrAt o s q) (by assumption),doLoad,inc_set,inc_core hq];rfl
 ·refine out_act (fin_out (q:=q) (c:={ { s.core q with pc:=(s.core q).pc + 1 } with buf:=(s.core q).buf ++ [StoreS.mk (s.core q).pc (instrAt o s q).addr ((s.core q).reg (instrAt o s q).a.toNat)] }) (b:=K.bufs.getD q 0) (mem:=s.mem) (pr:=s.prints) (did:=⟨3,q,(s.core q).pc,(instrAt o s q).addr,((s.core q).reg (instrAt o s q).a.toNat),0,false⟩) hBl aRow (by rw [CoreS.av,List.length_append];rfl) ⟨_,_,aRow,(by rw [List.map_append];rfl)⟩ (fin_rows hbufs (fun j h1 h2 => ?_)) ⟨_,_,aRow,rfl⟩ rfl ⟨_,_,aRow,rfl⟩ rfl rfl) ?_
  ·obtain ⟨g1,g2,g3,g4,g5⟩:=hall j h1;have g6:=hoth j h1 h2;exact aSkip
  ·rw [act4 (i:=instrAt o s q) (by assumption),doStore,inc_set,inc_core hq];rfl
end Go.Proofs.YtflicfkgbjmffaaGreat.V
end
section
/- The document's machine runs: the other kinds. -/
namespace Go.Proofs.YtflicfkgbjmffaaGreat.V
open Go Go.Abs Go.Proofs
set_option linter.unusedSimpArgs false
set_option linter.unusedVariables false
set_option maxHeartbeats 8000000 in
theorem rrun_hi {o:Obj} {s:Mach} (g:Good o s) (ok:ObjOk o) (hpl:(s.prints.length + 1) * 16 ≤ 140737488355328) (q:Nat) (hq:q < s.cores.length) (hkk:5 ≤ ((o.cores.getD q default).code.getD (s.core q).pc.toNat default).kind∧((o.cores.getD q default).code.getD (s.core q).pc.toNat default).kind ≤ 10):Pure Tryz.prog 31 [stAv o s,i64 q] (fun r => r = outAv o (runS o s q)):=by
 refine Go.pureL lf31 rfl ?_
 have hk:¬ out s q:=by unfold out;omega
 rw [runS,if_neg hk,Int.toNat_natCast]
 have hqo:q < o.cores.length:=by rw [← g.n];exact hq
 have hpc:=g.pc q hq
 have hpc2:(s.core q).pc.toNat < (o.core q).code.length:=by omega
 have hpc3:0 ≤ (s.core q).pc:=hpc.1
 have hcode:=ok.code q hqo
 have hW:=waits_pure g ok q hq
 repeat' (first|((with_reducible refine Go.red ?_);conv => whnf)|refine aG ?_|exact aC|with_reducible refine Go.and ?_ ?_|(apply Go.elem;(·(first|exact frozen_at hq _|exact aElem)))|refine aK (hW) ?_|refine aH ?_|((with_reducible refine Go.bool ?_ ?_) <;> intro hc <;> (try simp only [List.length_map,ne_eq,hcs] at hc) <;> try (exfalso;omega)))
 ·rw [if_pos hc]
  show AV.tup [AV.agg (List.map (Abs.frz _ 4) _),AV.agg (List.map (Abs.frz _ 4) _),_] = _
  rw [frz_same 4 (by simp [fitL,fitA,fitL_map]),frz_same 4 (by simp [fitL,fitA])]
  rfl
 ·rw [if_neg (fun hx => Bool.noConfusion (hx.symm.trans (show (s.core q).halted = false by assumption))),if_pos hc]
  show AV.tup [AV.agg (List.map (Abs.frz _ 4) _),AV.agg (List.map (Abs.frz _ 4) _),_] = _
  rw [frz_same 4 (by simp [fitL,fitA,fitL_map]),frz_same 4 (by simp [fitL,fitA])]
  rfl
 rw [if_neg (fun hx => Bool.noConfusion (hx.symm.trans (show (s.core q).halted = false by assumption))),if_neg (fun hx => Bool.noConfusion (hx.symm.trans hc))]
 refine Go.callN (copy_call o (g.lookable ok (by omega)) (by omega)) ?_
 rintro _ H2 n2 ⟨K,rfl,hR,hn2,hf2⟩
 have hn3:4 ≤ n2:=Nat.le_trans aNx hn2
 have iok:ActOk (instrAt o s q) (o.core q).code.length o.mem.length:=instrOk_act (ok.ok q hqo (s.core q).pc.toNat (by omega))
 have r0:∃ d e,getH H2 0 = some (.row 58 8 d [.agg e])∧e.length = 8:=⟨_,_,(hf2 0 aNx).trans aRow,rfl⟩
 obtain ⟨d0,e0,r0,he0⟩:=r0
 have r1:∃ d e,getH H2 1 = some (.row 58 8 d [.agg e])∧e.length = 8:=⟨_,_,(hf2 1 aNx).trans aRow,rfl⟩
 obtain ⟨d1,e1,r1,he1⟩:=r1
 have r2:∃ d e,getH H2 2 = some (.row 62 7 d [.agg e])∧e.length = 7:=⟨_,_,(hf2 2 aNx).trans aRow,rfl⟩
 obtain ⟨d2,e2,r2,he2⟩:=r2
 clear hf2
 obtain ⟨⟨dc,rc⟩,⟨dm,rm⟩,⟨dp,rp⟩,hbufs,hBl,hlt,hnd⟩:=hR
 obtain ⟨db,rb⟩:=hbufs q hq
 have hqB:q < K.bufs.length:=by rw [hBl];exact hq
 have hbm:K.bufs.getD q 0 ∈ K.bufs:=getD_mem hqB
 have lc:=hlt K.c (by simp [RLay.ids])
 have lm:=hlt K.mem (by simp [RLay.ids])
 have lp:=hlt K.pr (by simp [RLay.ids])
 have lb:=hlt (K.bufs.getD q 0) (by simp only [RLay.ids,List.mem_cons];exact .inr (.inr (.inr hbm)))
 have hnd2:=hnd
 simp only [RLay.ids,List.nodup_cons,List.mem_cons,not_or] at hnd2
 obtain ⟨⟨acm,acp,acb⟩,⟨amp,amb⟩,apb,_⟩:=hnd2
 have acb2:K.c ≠ K.bufs.getD q 0:=fun h => acb (h ▸ hbm)
 have amb2:K.mem ≠ K.bufs.getD q 0:=fun h => amb (h ▸ hbm)
 have apb2:K.pr ≠ K.bufs.getD q 0:=fun h => apb (h ▸ hbm)
 have hall:∀ j,j < s.cores.length→K.bufs.getD j 0 ≠ K.c∧K.bufs.getD j 0 ≠ K.mem∧K.bufs.getD j 0 ≠ K.pr∧4 ≤ K.bufs.getD j 0∧K.bufs.getD j 0 < n2:=by
  intro j hj
  have hm:K.bufs.getD j 0 ∈ K.bufs:=getD_mem (by rw [hBl];exact hj)
  have h9:=hlt (K.bufs.getD j 0) (by simp only [RLay.ids,List.mem_cons];exact .inr (.inr (.inr hm)))
  exact ⟨fun h => acb (h ▸ hm),fun h => amb (h ▸ hm),fun h => apb (h ▸ hm),by omega,h9.2⟩
 have hoth:∀ j,j < s.cores.length→j ≠ q→K.bufs.getD j 0 ≠ K.bufs.getD q 0:=by
  intro j hj hne he
  have h9:K.bufs.Nodup:=by assumption
  have hjB:j < K.bufs.length:=by rw [hBl];exact hj
  rcases Nat.lt_or_gt_of_ne hne with h|h
  ·exact List.pairwise_iff_getElem.1 h9 j q hjB hqB h (by simpa [List.getD,hjB,hqB] using he)
  ·exact List.pairwise_iff_getElem.1 h9 q j hqB hjB h (by simpa [List.getD,hjB,hqB] using he.symm)
 have hml:=mixed_len hBl
 have hk10:=kinds iok.kind
 clear hlt hnd acb amb apb hbm hW
 have id:0 ≤ ((o.cores.getD ((q:Int).toNat) default).code.getD (s.core q).pc.toNat default).d∧((o.cores.getD ((q:Int).toNat) default).code.getD (s.core q).pc.toNat default).d < 16:=iok.d
 have ia:0 ≤ ((o.cores.getD ((q:Int).toNat) default).code.getD (s.core q).pc.toNat default).a∧((o.cores.getD ((q:Int).toNat) default).code.getD (s.core q).pc.toNat default).a < 16:=iok.a
 have ib:0 ≤ ((o.cores.getD ((q:Int).toNat) default).code.getD (s.core q).pc.toNat default).b∧((o.cores.getD ((q:Int).toNat) default).code.getD (s.core q).pc.toNat default).b < 16:=iok.b
 have hbl:(s.core q).buf.length < 1000:=by have:=g.buf q hq;have:=ok.buffer;omega
 have had:((o.cores.getD q default).code.getD (s.core q).pc.toNat default).kind = 3 ∨ ((o.cores.getD q default).code.getD (s.core q).pc.toNat default).kind = 4 ∨ ((o.cores.getD q default).code.getD (s.core q).pc.toNat default).kind = 5→0 ≤ ((o.cores.getD ((q:Int).toNat) default).code.getD (s.core q).pc.toNat default).addr∧((o.cores.getD ((q:Int).toNat) default).code.getD (s.core q).pc.toNat default).addr < s.mem.length:=by rw [g.mem];exact iok.addr
 repeat' (first|((with_reducible refine Go.red ?_);conv => whnf)|refine aG ?_|exact aC|with_reducible refine Go.and ?_ ?_|(apply Go.elem;(·(first|exact mixed_at hBl hq _|exact getD_av _ _ _ _ hpc2|exact reg_at _ _ _ iok.d|exact reg_at _ _ _ iok.a|exact reg_at _ _ _ iok.b|exact pc_set _ _ _ _|exact aElem)))|(apply Go.gives;(·exact st_core (by simp [CoreS.cells]) aOne))|((with_reducible refine Go.callW (rtwo_pure _) ?_ ?_);(·exact aFit))|((with_reducible refine Go.callJ (fun _ => rtwo_pure _) ?_ ?_);(·exact aFit))|((with_reducible refine Go.callE (rtwo_pure _) ?_ ?_);(·exact aFit))|((with_reducible refine Go.callF (fun _ => rtwo_pure _) ?_ ?_);(·exact aFit))|((with_reducible refine Go.callW (rDo_two _ _ _ (by simp only [Int.toNat_natCast];exact hc)) ?_ ?_);(·exact aFit))|((with_reducible refine Go.callJ (fun _ => rDo_two _ _ _ (by simp only [Int.toNat_natCast];exact hc)) ?_ ?_);(·exact aFit))|((with_reducible refine Go.callE (rDo_two _ _ _ (by simp only [Int.toNat_natCast];exact hc)) ?_ ?_);(·exact aFit))|((with_reducible refine Go.callF (fun _ => rDo_two _ _ _ (by simp only [Int.toNat_natCast];exact hc)) ?_ ?_);(·exact aFit))|((with_reducible refine Go.callW (rOne_any _ _) ?_ ?_);(·exact aFit))|((with_reducible refine Go.callJ (fun _ => rOne_any _ _) ?_ ?_);(·exact aFit))|((with_reducible refine Go.callE (rOne_any _ _) ?_ ?_);(·exact aFit))|((with_reducible refine Go.callF (fun _ => rOne_any _ _) ?_ ?_);(·exact aFit))|(refine Go.view (seen_pure o s (s.core q) _ (had (.inl hc)) hbl) ?_ ?_ ?_ ?_;(·exact seen_args hBl aRow aRow aRow (seen_rows hbufs hall (by intro b h1 h2 h3 h4 h5;exact aSkip)) aRow (frz_sc _ _ _));(·simp [fitL,fitA,CoreS.cells,fitL_map]);(·exact flat2 _ _))|refine aH ?_|((with_reducible refine Go.bool ?_ ?_) <;> intro hc <;> (try simp only [List.length_map,ne_eq,hcs] at hc) <;> try (exfalso;omega)))
 ·refine out_act (fin_out (q:=q) (c:=CoreS.put { s.core q with pc:=(s.core q).pc + 1 } (instrAt o s q).d (s.mem.getD (instrAt o s q).addr.toNat 0)) (b:=K.bufs.getD q 0) (mem:=s.mem.set (instrAt o s q).addr.toNat ((s.core q).reg (instrAt o s q).d.toNat)) (pr:=s.prints) (did:=⟨4,q,(s.core q).pc,(instrAt o s q).addr,(s.mem.getD (instrAt o s q).addr.toNat 0),((s.core q).reg (instrAt o s q).d.toNat),false⟩) hBl aRow (by rw [CoreS.av,← put_cells2 _ _ _ _ _ iok.d];rfl) ⟨_,_,aRow,rfl⟩ (fin_rows hbufs (fun j h1 h2 => ?_)) ⟨_,_,aRow,(by rw [List.map_set];exact rfl)⟩ (by simp) ⟨_,_,aRow,rfl⟩ rfl rfl) ?_
  ·obtain ⟨g1,g2,g3,g4,g5⟩:=hall j h1;have g6:=hoth j h1 h2;exact aSkip
  ·rw [act5 (i:=instrAt o s q) (by assumption),doSwap,inc_set,inc_core hq];rfl
 ·refine out_act (fin_out (q:=q) (c:={ s.core q with pc:=(s.core q).pc + 1 }) (b:=K.bufs.getD q 0) (mem:=s.mem) (pr:=s.prints) (did:=⟨5,q,(s.core q).pc,0,0,0,false⟩) hBl aRow (by rw [CoreS.av];rfl) ⟨_,_,aRow,rfl⟩ (fin_rows hbufs (fun j h1 h2 => ?_)) ⟨_,_,aRow,rfl⟩ rfl ⟨_,_,aRow,rfl⟩ rfl rfl) ?_
  ·obtain ⟨g1,g2,g3,g4,g5⟩:=hall j h1;have g6:=hoth j h1 h2;exact aSkip
  ·rw [act6 (i:=instrAt o s q) (by assumption),doFence,inc_set,inc_core hq];rfl
 ·refine out_act (fin_out (q:=q) (c:={ s.core q with pc:=(s.core q).pc + 1 }) (b:=K.bufs.getD q 0) (mem:=s.mem) (pr:=s.prints ++ [PrintS.mk q ((s.core q).reg (instrAt o s q).a.toNat)]) (did:=⟨6,q,(s.core q).pc,0,((s.core q).reg (instrAt o s q).a.toNat),0,false⟩) hBl aRow (by rw [CoreS.av];rfl) ⟨_,_,aRow,rfl⟩ (fin_rows hbufs (fun j h1 h2 => ?_)) ⟨_,_,aRow,rfl⟩ rfl ⟨_,_,aRow,(by rw [List.map_append];rfl)⟩ (by simp) rfl) ?_
  ·obtain ⟨g1,g2,g3,g4,g5⟩:=hall j h1;have g6:=hoth j h1 h2;exact aSkip
  ·rw [act7 (i:=instrAt o s q) (by assumption),doPrint,inc_set,inc_core hq];rfl
 ·refine out_act (fin_out (q:=q) (c:={ s.core q with pc:=(instrAt o s q).to }) (b:=K.bufs.getD q 0) (mem:=s.mem) (pr:=s.prints) (did:=⟨1,q,(s.core q).pc,0,0,0,false⟩) hBl aRow (by rw [CoreS.av];rfl) ⟨_,_,aRow,rfl⟩ (fin_rows hbufs (fun j h1 h2 => ?_)) ⟨_,_,aRow,rfl⟩ rfl ⟨_,_,aRow,rfl⟩ rfl rfl) ?_
  ·obtain ⟨g1,g2,g3,g4,g5⟩:=hall j h1;have g6:=hoth j h1 h2;exact aSkip
  ·rw [act8 (i:=instrAt o s q) (by assumption),doJump,inc_set,inc_core hq];rfl
 ·refine out_act (fin_out (q:=q) (c:={ s.core q with pc:=(instrAt o s q).to }) (b:=K.bufs.getD q 0) (mem:=s.mem) (pr:=s.prints) (did:=⟨1,q,(s.core q).pc,0,0,0,false⟩) hBl aRow (by rw [CoreS.av];rfl) ⟨_,_,aRow,rfl⟩ (fin_rows hbufs (fun j h1 h2 => ?_)) ⟨_,_,aRow,rfl⟩ rfl ⟨_,_,aRow,rfl⟩ rfl rfl) ?_
  ·obtain ⟨g1,g2,g3,g4,g5⟩:=hall j h1;have g6:=hoth j h1 h2;exact aSkip
  ·rw [act9 (i:=instrAt o s q) (by assumption),doZero,inc_core hq,if_pos (by assumption),inc_set];rfl
 ·refine out_act (fin_out (q:=q) (c:={ s.core q with pc:=(s.core q).pc + 1 }) (b:=K.bufs.getD q 0) (mem:=s.mem) (pr:=s.prints) (did:=⟨1,q,(s.core q).pc,0,0,0,false⟩) hBl aRow (by rw [CoreS.av];rfl) ⟨_,_,aRow,rfl⟩ (fin_rows hbufs (fun j h1 h2 => ?_)) ⟨_,_,aRow,rfl⟩ rfl ⟨_,_,aRow,rfl⟩ rfl rfl) ?_
  ·obtain ⟨g1,g2,g3,g4,g5⟩:=hall j h1;have g6:=hoth j h1 h2;exact aSkip
  ·rw [act9 (i:=instrAt o s q) (by assumption),doZero,inc_core hq,if_neg (by assumption),inc_set];rfl
 ·refine out_act (fin_out (q:=q) (c:={ s.core q with halted:=true }) (b:=K.bufs.getD q 0) (mem:=s.mem) (pr:=s.prints) (did:=⟨7,q,(s.core q).pc,0,0,0,false⟩) hBl aRow (by rw [CoreS.av];rfl) ⟨_,_,aRow,rfl⟩ (fin_rows hbufs (fun j h1 h2 => ?_)) ⟨_,_,aRow,rfl⟩ rfl ⟨_,_,aRow,rfl⟩ rfl rfl) ?_
  ·obtain ⟨g1,g2,g3,g4,g5⟩:=hall j h1;have g6:=hoth j h1 h2;exact aSkip
  ·rw [act10 (i:=instrAt o s q) (by assumption),doHalt,inc_set,inc_core hq];rfl
end Go.Proofs.YtflicfkgbjmffaaGreat.V
end
section
/- The document's machine drains. -/
namespace Go.Proofs.YtflicfkgbjmffaaGreat.V
open Go Go.Abs Go.Proofs
set_option linter.unusedSimpArgs false
set_option linter.unusedVariables false
theorem frz_tail {H:Hp} {b:Nat} {d:AV} {c:CoreS} {x:StoreS} {t:List StoreS} {n:Nat} (h:getH H b = some (.row 135 3 d (c.buf.map StoreS.av))) (hb:c.buf = x :: t) (hn:c.buf.length = n):Abs.frz H 3 (.agg (c.cells (.sv b n 1 (n - 1)))) = CoreS.frozen { c with buf:=t }:=by
 subst hn
 have e:((c.buf.map StoreS.av).drop 1).take (c.buf.length - 1) = t.map StoreS.av:=by
  rw [hb];simp only [List.map_cons,List.drop_succ_cons,List.drop_zero,List.length_cons,Nat.add_sub_cancel]
  exact List.take_of_length_le (by simp)
 simp only [Abs.frz,CoreS.cells,List.map_cons,List.map_nil,frz_sc,h]
 rw [if_pos (by simp),e,frz_same 1 (by simp [fitL_map,fitA,fitL])]
 rfl
@[simp] theorem fit_put (n:Nat) (l:List Int) (i:Nat) (w:Int):fitL n ((l.map i64).set i (i64 w)):=by
 rw [← List.map_set,fitL_map];exact fun _ _ => trivial
theorem fin_drain {o:Obj} {s:Mach} {K:RLay} {H:Hp} {q:Nat} {x:AV} {c:CoreS} {mem:List Int} {pr:List PrintS} {did:DidS} {dd:List AV} {dc:AV} {k l:Nat}
  (hBl:K.bufs.length = s.cores.length)
  (hc:getH H K.c = some (.row 126 19 dc ((mixed s K.bufs).set q x)))
  (hx:Abs.frz H 3 x = c.frozen)
  (hB:∀ j,j < s.cores.length→j ≠ q→∃ d,getH H (K.bufs.getD j 0) = some (.row 135 3 d ((s.core j).buf.map StoreS.av)))
  (hm:∃ d es,getH H K.mem = some (.row 2 1 d es)∧es = mem.map i64) (hk:mem.length = k) (hp:∃ d es,getH H K.pr = some (.row 137 2 d es)∧es = pr.map PrintS.av) (hl:pr.length = l) (hd:AV.agg dd = did.av) :
  AV.tup [AV.agg (List.map (Abs.frz H 4) [.im 1 .any (o.mem.map i64),i64 o.shared,i64 o.locks,i64 o.buffer,.im 2 .any (o.cores.map Core.av),.sl K.c s.cores.length,.sl K.mem k,.sl K.pr l]),AV.agg (List.map (Abs.frz H 4) dd),i64 0] = outAv o ({ s.setCore q c with mem:=mem,prints:=pr },did,0):=by
 obtain ⟨d1,es1,hm,rfl⟩:=hm
 obtain ⟨d2,es2,hp,rfl⟩:=hp
 have h1:=out_frz (o:=o) (s:={ s.setCore q c with mem:=mem,prints:=pr }) 0 (n:=s.cores.length) (k:=k) (l:=l) hc (by simp [mixed_len hBl]) (set_frz hBl hx hB) hm (by simp [hk]) hp (by simp [hl])
 have h2:List.map (Abs.frz H 4) dd = dd:=frz_same 4 (by injection hd with hd;rw [hd];simp [fitL,fitA])
 rw [h2,hd]
 exact congrArg (fun z => AV.tup [AV.agg z,did.av,i64 0]) h1
set_option maxHeartbeats 4000000 in
theorem rdrain_pure {o:Obj} {s:Mach} (g:Good o s) (ok:ObjOk o) (hpl:(s.prints.length + 1) * 16 ≤ 140737488355328) (q:Nat) (hq:q < s.cores.length):Pure Tryz.prog 32 [stAv o s,i64 q] (fun r => r = outAv o (drainS o s q)):=by
 refine Go.pureL lf32 rfl ?_
 have hk:¬ out s q:=by unfold out;omega
 rw [drainS,if_neg hk,Int.toNat_natCast]
 cases hb:(s.core q).buf with
 | nil =>
  have hb0:(s.core q).buf.length = 0:=by rw [hb];rfl
  repeat' (first|((with_reducible refine Go.red ?_);conv => whnf)|refine aG ?_|exact aC|with_reducible refine Go.and ?_ ?_|(apply Go.elem;(·(first|exact frozen_at hq _|exact aElem)))|refine aH ?_|((with_reducible refine Go.bool ?_ ?_) <;> intro hc <;> (try simp only [List.length_map,ne_eq,hcs] at hc) <;> try (exfalso;omega)))
  show AV.tup [AV.agg (List.map (Abs.frz _ 4) _),AV.agg (List.map (Abs.frz _ 4) _),_] = _
  rw [frz_same 4 (by simp [fitL,fitA,fitL_map]),frz_same 4 (by simp [fitL,fitA])]
  rfl
 | cons x t =>
  have hb0:(s.core q).buf.length = t.length + 1:=by rw [hb];rfl
  have hx0:(s.core q).buf.getD 0 default = x:=by rw [hb];rfl
  have hadr:0 ≤ ((s.core q).buf.getD (Int.toNat 0) default).addr∧((s.core q).buf.getD (Int.toNat 0) default).addr < s.mem.length:=by rw [show ((s.core q).buf.getD (Int.toNat 0) default) = x from hx0];exact g.addr q hq x (by rw [hb];simp)
  repeat' (first|((with_reducible refine Go.red ?_);conv => whnf)|refine aG ?_|exact aC|with_reducible refine Go.and ?_ ?_|(apply Go.elem;(·(first|exact frozen_at hq _|exact aElem)))|refine aH ?_|((with_reducible refine Go.bool ?_ ?_) <;> intro hc <;> (try simp only [List.length_map,ne_eq,hcs] at hc) <;> try (exfalso;omega)))
  refine Go.callN (copy_call o (g.lookable ok (by omega)) (by omega)) ?_
  rintro _ H2 n2 ⟨K,rfl,hR,hn2,hf2⟩
  have hn3:4 ≤ n2:=Nat.le_trans aNx hn2
  have r0:∃ d e,getH H2 0 = some (.row 58 8 d [.agg e])∧e.length = 8:=⟨_,_,(hf2 0 aNx).trans aRow,rfl⟩
  obtain ⟨d0,e0,r0,he0⟩:=r0
  have r1:∃ d e,getH H2 1 = some (.row 58 8 d [.agg e])∧e.length = 8:=⟨_,_,(hf2 1 aNx).trans aRow,rfl⟩
  obtain ⟨d1,e1,r1,he1⟩:=r1
  have r2:∃ d e,getH H2 2 = some (.row 62 7 d [.agg e])∧e.length = 7:=⟨_,_,(hf2 2 aNx).trans aRow,rfl⟩
  obtain ⟨d2,e2,r2,he2⟩:=r2
  clear hf2
  obtain ⟨⟨dc,rc⟩,⟨dm,rm⟩,⟨dp,rp⟩,hbufs,hBl,hlt,hnd⟩:=hR
  obtain ⟨db,rb⟩:=hbufs q hq
  have hqB:q < K.bufs.length:=by rw [hBl];exact hq
  have hbm:K.bufs.getD q 0 ∈ K.bufs:=getD_mem hqB
  have lc:=hlt K.c (by simp [RLay.ids])
  have lm:=hlt K.mem (by simp [RLay.ids])
  have lp:=hlt K.pr (by simp [RLay.ids])
  have lb:=hlt (K.bufs.getD q 0) (by simp only [RLay.ids,List.mem_cons];exact .inr (.inr (.inr hbm)))
  simp only [RLay.ids,List.nodup_cons,List.mem_cons,not_or] at hnd
  obtain ⟨⟨acm,acp,acb⟩,⟨amp,amb⟩,apb,_⟩:=hnd
  have acb2:K.c ≠ K.bufs.getD q 0:=fun h => acb (h ▸ hbm)
  have amb2:K.mem ≠ K.bufs.getD q 0:=fun h => amb (h ▸ hbm)
  have apb2:K.pr ≠ K.bufs.getD q 0:=fun h => apb (h ▸ hbm)
  have hall:∀ j,j < s.cores.length→K.bufs.getD j 0 ≠ K.c∧K.bufs.getD j 0 ≠ K.mem∧K.bufs.getD j 0 ≠ K.pr∧4 ≤ K.bufs.getD j 0∧K.bufs.getD j 0 < n2:=by
   intro j hj
   have hm:K.bufs.getD j 0 ∈ K.bufs:=getD_mem (by rw [hBl];exact hj)
   have h9:=hlt (K.bufs.getD j 0) (by simp only [RLay.ids,List.mem_cons];exact .inr (.inr (.inr hm)))
   exact ⟨fun h => acb (h ▸ hm),fun h => amb (h ▸ hm),fun h => apb (h ▸ hm),by omega,h9.2⟩
  have hml:=mixed_len hBl
  clear hlt acb amb apb hbm
  repeat' (first|((with_reducible refine Go.red ?_);conv => whnf)|refine aG ?_|exact aC|with_reducible refine Go.and ?_ ?_|(apply Go.elem;(·(first|exact mixed_at hBl hq _|exact aElem)))|(apply Go.gives;(·exact st_core (by simp [CoreS.cells]) aOne))|refine aH ?_|((with_reducible refine Go.bool ?_ ?_) <;> intro hc <;> (try simp only [List.length_map,ne_eq,hcs] at hc) <;> try (exfalso;omega)))
  refine (fin_drain (q:=q) (c:={ s.core q with buf:=t }) (mem:=s.mem.set x.addr.toNat x.word) (pr:=s.prints) (did:=⟨8,q,x.pc,x.addr,x.word,0,false⟩) hBl aRow ?_ (fin_rows hbufs (fun j h1 h2 => ?_)) ⟨_,_,aRow,?_⟩ (by simp) ⟨_,_,aRow,rfl⟩ rfl ?_).trans ?_
  ·exact frz_tail (c:=s.core q) aRow hb rfl
  ·obtain ⟨g1,g2,g3,g4,g5⟩:=hall j h1;exact aSkip
  ·rw [show ((s.core q).buf.getD (Int.toNat 0) default) = x from hx0,List.map_set]
  ·rw [show ((s.core q).buf.getD (Int.toNat 0) default) = x from hx0];rfl
  ·rfl
end Go.Proofs.YtflicfkgbjmffaaGreat.V
end
section
/- The document's machine steps; how it begins. -/
namespace Go.Proofs.YtflicfkgbjmffaaGreat.V
open Go Go.Abs Go.Proofs
set_option linter.unusedSimpArgs false
set_option linter.unusedVariables false
theorem rrun_pure {o:Obj} {s:Mach} (g:Good o s) (ok:ObjOk o) (hpl:(s.prints.length + 1) * 16 ≤ 140737488355328) (q:Nat) (hq:q < s.cores.length):Pure Tryz.prog 31 [stAv o s,i64 q] (fun r => r = outAv o (runS o s q)):=by
 have hk:1 ≤ ((o.cores.getD q default).code.getD (s.core q).pc.toNat default).kind∧((o.cores.getD q default).code.getD (s.core q).pc.toNat default).kind ≤ 10 :=
  (instrOk_act (ok.ok q (by rw [← g.n];exact hq) (s.core q).pc.toNat (by have:=g.pc q hq;omega))).kind
 by_cases h:((o.cores.getD q default).code.getD (s.core q).pc.toNat default).kind ≤ 4
 ·exact rrun_lo g ok hpl q hq ⟨hk.1,h⟩
 ·exact rrun_hi g ok hpl q hq ⟨by omega,hk.2⟩
theorem rstep_pure {o:Obj} {s:Mach} (g:Good o s) (ok:ObjOk o) (hpl:(s.prints.length + 1) * 16 ≤ 140737488355328) (kind k:Int):Pure Tryz.prog 14 [stAv o s,.agg [u8 kind,i64 k]] (fun r => r = outAv o (stepS o s kind k)):=by
 refine Go.pureL lf14 rfl ?_
 by_cases ho:out s k
 ·have ho2:k < 0 ∨ (s.cores.length:Int) ≤ k:=ho
  rw [stepS,runS,if_pos ho,drainS,if_pos ho]
  repeat' (first|((with_reducible refine Go.red ?_);conv => whnf)|refine aG ?_|exact aC|with_reducible refine Go.and ?_ ?_|(apply Go.elem;(·exact aElem))|refine aH ?_|((with_reducible refine Go.bool ?_ ?_) <;> intro hc <;> (try simp only [List.length_map,ne_eq,hcs] at hc) <;> try (exfalso;omega)))
  ·show AV.tup [AV.agg (List.map (Abs.frz _ 4) _),AV.agg (List.map (Abs.frz _ 4) _),_] = _
   rw [frz_same 4 (by simp [fitL,fitA,fitL_map,CoreS.cells]),frz_same 4 (by simp [fitL,fitA])]
   rw [if_neg hc.1,if_neg hc.2];rfl
  ·show AV.tup [AV.agg (List.map (Abs.frz _ 4) _),AV.agg (List.map (Abs.frz _ 4) _),_] = _
   rw [frz_same 4 (by simp [fitL,fitA,fitL_map,CoreS.cells]),frz_same 4 (by simp [fitL,fitA])]
   have h12:kind = 1 ∨ kind = 2:=by assumption
   rcases h12 with rfl|rfl <;> rfl
 ·have ho2:0 ≤ k∧k < (s.cores.length:Int):=by unfold out at ho;omega
  obtain ⟨q,rfl⟩:∃ q:Nat,k = (q:Int):=⟨k.toNat,by omega⟩
  have hq:q < s.cores.length:=by omega
  clear ho
  rw [stepS]
  repeat' (first|((with_reducible refine Go.red ?_);conv => whnf)|refine aG ?_|exact aC|with_reducible refine Go.and ?_ ?_|(apply Go.elem;(·exact aElem))|refine aK (rrun_pure g ok hpl q hq) ?_|refine aK (rdrain_pure g ok hpl q hq) ?_|refine aH ?_|((with_reducible refine Go.bool ?_ ?_) <;> intro hc <;> (try simp only [List.length_map,ne_eq,hcs] at hc) <;> try (exfalso;omega)))
  ·show AV.tup [AV.agg (List.map (Abs.frz _ 4) _),AV.agg (List.map (Abs.frz _ 4) _),_] = _
   rw [frz_same 4 (by simp [fitL,fitA,fitL_map,CoreS.cells]),frz_same 4 (by simp [fitL,fitA])]
   rw [if_neg hc.1,if_neg hc.2];rfl
  ·show AV.tup [AV.agg (List.map (Abs.frz _ 4) _),AV.agg (List.map (Abs.frz _ 4) _),_] = _
   rw [frz_same 4 (by simp [fitL,fitA,fitL_map,CoreS.cells]),frz_same 4 (by simp [fitL,fitA])]
   rw [if_pos hc]
  ·show AV.tup [AV.agg (List.map (Abs.frz _ 4) _),AV.agg (List.map (Abs.frz _ 4) _),_] = _
   rw [frz_same 4 (by simp [fitL,fitA,fitL_map,CoreS.cells]),frz_same 4 (by simp [fitL,fitA])]
   have h12:kind = 1 ∨ kind = 2:=by assumption
   rw [if_neg hc,if_pos (by omega)]
theorem pure_weak {P:Program} {f:FuncId} {args:List AV} {a b:AV} (h:Pure P f args (fun r => r = a)) (hf:fitA 0 b) (hle:∀ c,AVle c c a b):Pure P f args (fun r => r = b) :=
 ⟨h.1,fun M w vs hM hv => (h.2 M w vs hM hv).mono fun _ _ ⟨v,r,he,hR,hf0,hvr,hb⟩ => ⟨v,b,he,rfl,hf,hle _ v (by rw [← hR];exact hvr),hb⟩⟩
theorem AVle.imL {c:Cx} {sz:Nat} {d:AV} {es es2:List AV} (h:AVles c c es es2):AVle c c (.im sz d es) (.im sz d es2):=by
 intro v hv
 have hl:=h.length
 rw [VR] at hv ⊢
 obtain ⟨a,cap,h1,h2,h3⟩:=hv
 refine ⟨a,cap,by rw [← hl];exact h1,by rw [← hl];exact h2,?_⟩
 rcases h3 with h3|⟨blk,o,g1,g2,g3,g4⟩
 ·left
  subst h3
  exact List.eq_nil_of_length_eq_zero hl.symm
 ·exact .inr ⟨blk,o,g1,g2,g3,h.row rfl g4⟩
def rnew0 (o:Obj):AV:=.agg [.im 1 .any (o.mem.map i64),i64 o.shared,i64 o.locks,i64 o.buffer,.im 2 .any (o.cores.map Core.av),.im 19 .any (List.replicate o.cores.length zcore),.im 1 .any (o.mem.map i64),.sc (.slice none 0 0)]
theorem rnew_frz {o:Obj} {H:Hp} {d1 d2:AV} {es1 es2:List AV} {b1 b2 n k:Nat} (h1:getH H b1 = some (.row 126 19 d1 es1)) (e1:es1 = List.replicate o.cores.length zcore) (l1:o.cores.length = n) (h2:getH H b2 = some (.row 2 1 d2 es2)) (e2:es2 = o.mem.map i64) (l2:o.mem.length = k) :
  AV.agg (List.map (Abs.frz H 5) [.im 1 .any (o.mem.map i64),i64 o.shared,i64 o.locks,i64 o.buffer,.im 2 .any (o.cores.map Core.av),.sl b1 n,.sl b2 k,.sc (.slice none 0 0)]) = rnew0 o:=by
 subst e1 e2
 have hz:fitL 0 (List.replicate o.cores.length zcore):=by rw [fitL_iff];intro x hx;rw [(List.mem_replicate.1 hx).2];simp [zcore,CoreS.cells,fitA,fitL]
 simp only [List.map_cons,List.map_nil,frz_sl (k:=4) (len:=n) h1 (by simp [l1]),frz_sl (k:=4) (len:=k) h2 (by simp [l2]),frz_sc]
 rw [frz_same 4 hz,frz_same 4 (by simp [fitL_map,fitA])]
 rw [frz_fit 5 (by simp [fitA,fitL,fitL_map]),frz_fit 5 (by simp [fitA,fitL,fitL_map])]
 rfl
@[simp] theorem fit_rnew (o:Obj):fitA 0 (rnew0 o):=by
 have hz:fitL 0 (List.replicate o.cores.length zcore):=by rw [fitL_iff];intro x hx;rw [(List.mem_replicate.1 hx).2];simp [zcore,CoreS.cells,fitA,fitL]
 simp [rnew0,fitA,fitL,fitL_map,hz]
theorem rnew_raw (o:Obj) (ho:o.Wf) (h8:o.cores.length ≤ 8) (hm:o.mem.length ≤ 4096):Pure Tryz.prog 13 [o.av] (fun r => r = rnew0 o):=by
 refine Go.pureL lf13 rfl ?_
 repeat' (first|((with_reducible refine Go.red ?_);conv => whnf)|refine aG ?_|exact aC|with_reducible refine Go.and ?_ ?_|(apply Go.elem;(·exact aElem))|refine aH ?_|((with_reducible refine Go.bool ?_ ?_) <;> intro hc <;> (try simp only [List.length_map,ne_eq,hcs] at hc) <;> try (exfalso;omega)))
 exact rnew_frz (o:=o) aRow (by simp only [Int.toNat_natCast,List.length_map];rfl) (by simp) aRow rfl (by simp)
theorem rnew_pure (o:Obj) (ho:o.Wf) (h8:o.cores.length ≤ 8) (hm:o.mem.length ≤ 4096):Pure Tryz.prog 13 [o.av] (fun r => r = stAv o (initM o)):=by
 refine pure_weak (rnew_raw o ho h8 hm) (fit_st 0 o _) fun c => AVle.agg ?_
 refine .cons (fun _ h => h) (.cons (fun _ h => h) (.cons (fun _ h => h) (.cons (fun _ h => h) (.cons (fun _ h => h) (.cons (AVle.imL ?_) (.cons (fun _ h => h) (.cons (AVle.nilIm _ _ _ _) .nil)))))))
 show AVles c c _ ((List.replicate o.cores.length core0).map CoreS.frozen)
 rw [List.map_replicate]
 generalize o.cores.length = n
 induction n with
 | zero => exact .nil
 | succ n ih =>
  refine .cons (AVle.agg ?_) ih
  simp only [CoreS.cells]
  repeat (first|exact .nil|refine .cons (fun _ h => h) ?_|refine .cons (AVle.nilIm _ _ _ _) ?_)
end Go.Proofs.YtflicfkgbjmffaaGreat.V
end
