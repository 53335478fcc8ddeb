/- The constant pattern of tags: counted, matches, hits. Own work of this seat. -/
import Derived.Test.YtnfkjpihaficbaaGreatDoorG43
set_option maxRecDepth 100000
set_option linter.unusedSimpArgs false
set_option linter.unusedVariables false
namespace Go.Proofs.YtnfkjpihaficbaaGreatDoor
open Go Go.Av Go.RowKit
def numNames:List (List UInt8):=[[111,110,101],[116,119,111],[116,104,114,101,101],[102,111,117,114],[102,105,118,101],[115,105,120],[115,101,118,101,110],[101,105,103,104,116],[110,105,110,101],[116,101,110],[101,108,101,118,101,110],[116,119,101,108,118,101]]
set_option maxHeartbeats 2000000 in
theorem countedTwo_pc:Pc Tryz.prog 212 [.str [116,119,111]] (· = .int .i64 2):=by
 have hx:=indexS_pc numNames [116,119,111] (by decide)
 rw [show idxS [116,119,111] numNames=1 by decide] at hx
 simp only [numNames,List.map_cons,List.map_nil] at hx
 refine pc_intro (ct_intro Tryz.func212 rfl Tryz.ntmps212 hB212 (by simp) fun h ρ w=>goB (N:=46) Tryz.ntmps212 16 ?_)
 simp only [go_sem]
 refine AWp.shift (Shift.trans (Shift.frz 0 rfl rfl) (Shift.weakS (e':=[(3,.pin 12 [.agg (numNames.map .str)] 0 0),(0,.str [116,119,111])]) (s':=[.dead]) ⟨rfl,rfl,trivial⟩ rfl)) ?_
 simp only [numNames,List.map_cons,List.map_nil]
 refine goB (N:=46) Tryz.ntmps212 300 ?_
 simp only [go_sem]
 repeat refine And.intro (by first | rfl | decide) ?_
 refine pcall1 (hx) rfl (N:=46) Tryz.ntmps212 rfl (goB (N:=46) Tryz.ntmps212 300 ?_)
 simp only [go_sem]
 repeat refine And.intro (by first | rfl | decide) ?_
 exact aret [2] rfl ⟨rfl,rfl⟩
def itHashA:AV:=.agg [.bool false,.bool true,.bool false,.raw (.slice none 0 0)]
def itGunA:AV:=.agg [.bool false,.bool false,.bool true,.fz 1 [.str [103,117,110]]]
theorem matchHash_pc:Pc Tryz.prog 211 [itHashA,.str [116,119,111]] (· = .bool true):=by
 simp only [itHashA]
 refine pc_intro (ct_intro Tryz.func211 rfl Tryz.ntmps211 hB211 (by simp) fun h ρ w=>goB (N:=27) Tryz.ntmps211 300 ?_)
 simp only [go_sem]
 refine pcall1 (countedTwo_pc) rfl (N:=27) Tryz.ntmps211 rfl (goB (N:=27) Tryz.ntmps211 300 ?_)
 simp only [go_sem]
 exact aret [4] rfl ⟨rfl,rfl⟩
theorem matchGun_pc:Pc Tryz.prog 211 [itGunA,.str [103,117,110,115]] (· = .bool true):=by
 have hp:=hasPrefix_pc [103,117,110,115] [103,117,110]
 rw [show Lib.hasPrefix [103,117,110,115] [103,117,110]=true by decide] at hp
 simp only [itGunA]
 refine pc_intro (ct_intro Tryz.func211 rfl Tryz.ntmps211 hB211 (by simp) fun h ρ w=>goB (N:=27) Tryz.ntmps211 300 ?_)
 simp only [go_sem]
 repeat refine And.intro (by first | rfl | decide) ?_
 refine pcall1 (hp) rfl (N:=27) Tryz.ntmps211 rfl (goB (N:=27) Tryz.ntmps211 300 ?_)
 simp only [go_sem]
 exact aret [4] rfl ⟨rfl,rfl⟩
def hitA:AV:=.agg [.int .i64 0,.int .i64 2,.int .i64 2]
set_option maxHeartbeats 4000000 in
theorem hitAt_pc:Pc Tryz.prog 157 [.fz 4 [itHashA,itGunA],.fz 1 [.str [116,119,111],.str [103,117,110,115]],.int .i64 0] (· = .tup [hitA,.bool true]):=by
 have h1:=matchHash_pc
 have h2:=matchGun_pc
 simp only [itHashA,itGunA,hitA] at h1 h2 ⊢
 refine pc_intro (ct_intro Tryz.func157 rfl Tryz.ntmps157 hB157 (by simp) fun h ρ w=>goB (N:=61) Tryz.ntmps157 300 ?_)
 simp only [go_sem]
 repeat refine And.intro (by first | rfl | decide) ?_
 refine aenter (around ?_)
 refine goB (N:=61) Tryz.ntmps157 300 ?_
 simp only [go_sem]
 repeat refine And.intro (by first | rfl | decide) ?_
 refine adraw [.bool true] mixed (by decide) (N:=61) Tryz.ntmps157 (by decide) 100 ?_
 simp only [go_sem]
 repeat refine And.intro (by first | exact h1.at | rfl | decide) ?_
 refine goB (N:=61) Tryz.ntmps157 300 ?_
 simp only [go_sem]
 repeat refine And.intro (by first | rfl | decide) ?_
 refine pcall1 (countedTwo_pc) rfl (N:=61) Tryz.ntmps157 rfl (goB (N:=61) Tryz.ntmps157 300 ?_)
 simp only [go_sem]
 repeat refine And.intro (by first | rfl | decide | exact .inl rfl | exact .inl trivial) ?_
 refine aagain (around ?_)
 refine goB (N:=61) Tryz.ntmps157 300 ?_
 simp only [go_sem]
 repeat refine And.intro (by first | rfl | decide | exact .inl rfl | exact .inl trivial) ?_
 refine adraw [.bool true] mixed (by decide) (N:=61) Tryz.ntmps157 (by decide) 100 ?_
 simp only [go_sem]
 repeat refine And.intro (by first | exact h2.at | rfl | decide) ?_
 refine goB (N:=61) Tryz.ntmps157 300 ?_
 simp only [go_sem]
 repeat refine And.intro (by first | rfl | decide | exact .inl rfl | exact .inl trivial) ?_
 refine aagain (around ?_)
 refine goB (N:=61) Tryz.ntmps157 300 ?_
 simp only [go_sem]
 repeat refine And.intro (by first | rfl | decide | exact .inl rfl | exact .inl trivial) ?_
 exact aretc [.cell 6 130,.tmp 7] rfl [_,_] ⟨by simp only [go_sem,sideIs],rfl,trivial⟩ ⟨rfl,rfl⟩
theorem hits_pc:Pc Tryz.prog 107 [.fz 4 [itHashA,itGunA],.fz 1 [.str [116,119,111],.str [103,117,110,115]]] (· = .fz 3 [hitA]):=by
 have h1:=hitAt_pc
 simp only [hitA] at h1 ⊢
 refine pc_intro (ct_intro Tryz.func107 rfl Tryz.ntmps107 hB107 (by simp) fun h ρ w=>goB (N:=33) Tryz.ntmps107 300 ?_)
 simp only [go_sem]
 refine aenter (around ?_)
 refine goB (N:=33) Tryz.ntmps107 300 ?_
 simp only [go_sem]
 repeat refine And.intro (by first | rfl | decide | exact .inl rfl | exact .inl trivial) ?_
 refine pcall1 (h1) rfl (N:=33) Tryz.ntmps107 rfl (goB (N:=33) Tryz.ntmps107 300 ?_)
 simp only [go_sem]
 repeat refine And.intro (by first | rfl | decide | exact .inl rfl | exact .inl trivial) ?_
 refine aagain (around ?_)
 refine goB (N:=33) Tryz.ntmps107 300 ?_
 simp only [go_sem]
 repeat refine And.intro (by first | rfl | decide | exact .inl rfl | exact .inl trivial) ?_
 refine ARet.shift (Shift.freeze 4 (id:=1) (l:=[.agg [.int .i64 0,.int .i64 2,.int .i64 2]]) rfl rfl rfl (Nat.le_refl _) rfl) (aret [4] rfl ⟨rfl,rfl⟩)
theorem sHasSuffix_pc:Pc Tryz.prog 199 [.str [103,117,110,42],.str [42]] (· = .bool true):=by
 refine pc_intro (ct_intro Tryz.func199 rfl Tryz.ntmps199 hB199 (by simp) fun h ρ w=>goB (N:=21) Tryz.ntmps199 300 ?_)
 simp only [go_sem]
 repeat refine And.intro (by first | rfl | decide | exact .inl rfl | exact .inl trivial) ?_
 exact aret [4] rfl ⟨rfl,rfl⟩
theorem sCutSuffix_pc:Pc Tryz.prog 260 [.str [103,117,110,42],.str [42]] (· = .tup [.str [103,117,110],.bool true]):=by
 refine pc_intro (ct_intro Tryz.func260 rfl Tryz.ntmps260 hB260 (by simp) fun h ρ w=>goB (N:=18) Tryz.ntmps260 300 ?_)
 simp only [go_sem]
 refine pcall1 (sHasSuffix_pc) rfl (N:=18) Tryz.ntmps260 rfl (goB (N:=18) Tryz.ntmps260 300 ?_)
 simp only [go_sem]
 repeat refine And.intro (by first | rfl | decide | exact .inl rfl | exact .inl trivial) ?_
 exact aret [4,5] rfl ⟨rfl,rfl⟩
theorem cutSuffix_pc:Pc Tryz.prog 208 [.str [103,117,110,42],.str [42]] (· = .tup [.str [103,117,110],.bool true]):=by
 refine pc_intro (ct_intro Tryz.func208 rfl Tryz.ntmps208 hB208 (by simp) fun h ρ w=>goB (N:=11) Tryz.ntmps208 300 ?_)
 simp only [go_sem]
 refine pcall1 (sCutSuffix_pc) rfl (N:=11) Tryz.ntmps208 rfl (goB (N:=11) Tryz.ntmps208 300 ?_)
 simp only [go_sem]
 exact aret [4,5] rfl ⟨rfl,rfl⟩
theorem readHash_pc:Pc Tryz.prog 152 [.str [35]] (· = .tup [itHashA,.bool true]):=by
 have e1:(([35]:List UInt8) == [63])=false:=by decide
 simp only [itHashA]
 refine pc_intro (ct_intro Tryz.func152 rfl Tryz.ntmps152 hB152 (by simp) fun h ρ w=>goB (N:=42) Tryz.ntmps152 300 ?_)
 simp only [go_sem,e1]
 exact aretc [.cell 2 233,.tmp 3] rfl [_,_] ⟨by simp only [go_sem,sideIs],rfl,trivial⟩ ⟨rfl,rfl⟩
theorem readGun_pc:Pc Tryz.prog 152 [.str [103,117,110,42]] (· = .tup [itGunA,.bool true]):=by
 have hw:=isWord_pc [103,117,110] (by decide)
 have e1:(([103,117,110,42]:List UInt8) == [63])=false:=by decide
 have e2:(([103,117,110,42]:List UInt8) == [35])=false:=by decide
 simp only [itGunA]
 refine pc_intro (ct_intro Tryz.func152 rfl Tryz.ntmps152 hB152 (by simp) fun h ρ w=>goB (N:=42) Tryz.ntmps152 300 ?_)
 simp only [go_sem,e1,e2]
 refine pcall1 (cutSuffix_pc) rfl (N:=42) Tryz.ntmps152 rfl (goB (N:=42) Tryz.ntmps152 300 ?_)
 simp only [go_sem]
 repeat refine And.intro (by first | rfl | decide | exact .inl rfl | exact .inl trivial) ?_
 refine pcall1 (hw) rfl (N:=42) Tryz.ntmps152 rfl (goB (N:=42) Tryz.ntmps152 300 ?_)
 simp only [go_sem]
 repeat refine And.intro (by first | rfl | decide | exact .inl rfl | exact .inl trivial) ?_
 exact aretc [.cell 2 233,.tmp 3] rfl [_,_] ⟨by simp only [go_sem,sideIs],rfl,trivial⟩ ⟨rfl,rfl⟩
theorem match_pch {S:Std} (hr:PcH Tryz.prog S 104 [.str [35,32,103,117,110,42]] (· = .tup [.fz 4 [itHashA,itGunA],.bool true])):PcH Tryz.prog S 56 [.str [35,32,103,117,110,42],.str [116,119,111,32,103,117,110,115]] (· = .tup [.fz 3 [hitA],.int .i64 0]):=by
 have hw:=words_pc [116,119,111,32,103,117,110,115] (by decide)
 rw [show wordsL [116,119,111,32,103,117,110,115]=[[116,119,111],[103,117,110,115]] by decide] at hw
 simp only [List.map_cons,List.map_nil] at hw
 refine pch_intro (cth_intro Tryz.func56 rfl Tryz.ntmps56 hB56 (by simp) fun h ρ w hg=>goB (N:=19) Tryz.ntmps56 300 ?_)
 simp only [go_sem]
 refine pcallH1 hg (hr) rfl (N:=19) Tryz.ntmps56 rfl (goB (N:=19) Tryz.ntmps56 300 ?_)
 simp only [go_sem]
 refine pcall1 (hw) rfl (N:=19) Tryz.ntmps56 rfl (goB (N:=19) Tryz.ntmps56 300 ?_)
 simp only [go_sem]
 refine pcall1 (hits_pc) rfl (N:=19) Tryz.ntmps56 rfl (goB (N:=19) Tryz.ntmps56 300 ?_)
 simp only [go_sem]
 exact aret [4,5] rfl ⟨rfl,rfl⟩
theorem tags_pch {S:Std} (hr:PcH Tryz.prog S 104 [.str [35,32,103,117,110,42]] (· = .tup [.fz 4 [itHashA,itGunA],.bool true])):PcH Tryz.prog S 12 [] (· = .bool true):=by
 have hm:=match_pch hr
 simp only [hitA] at hm
 refine pch_intro (cth_intro Tryz.func12 rfl Tryz.ntmps12 hB12 (by simp) fun h ρ w hg=>goB (N:=21) Tryz.ntmps12 300 ?_)
 simp only [go_sem]
 refine pcallH1 hg (hm) rfl (N:=21) Tryz.ntmps12 rfl (goB (N:=21) Tryz.ntmps12 300 ?_)
 simp only [go_sem]
 repeat refine And.intro (by first | rfl | decide) ?_
 exact aret [0] rfl ⟨rfl,rfl⟩
end Go.Proofs.YtnfkjpihaficbaaGreatDoor
set_option linter.unusedSectionVars false
namespace Go.Av
open Go Go.RowKit
variable [Tr]
def stoD (d:Nat) (e:Env) (o:Oper):Prop:=match o.guard,o.op with
 | none,.store _ x _=>match ev e x with
  | .ptr i _ _ _=>i=d
  | _=>False
 | _,_=>False
def sck (ids lk:List (Nat × Nat)) (i:Nat) (e:Env) (s:List Blk) (o:Oper):Prop :=
 (match ids.lookup i with
  | some d=>stoD d e o
  | none=>True)∧(bif reader o.op && !blind o.op then ids.all (fun p=>lk.contains (i,p.1) || opOk s.length p.2 e o.op)=true else True)
theorem sto_does {c:Cx} {ops:Array Oper} {s s1:List Blk} {o:Oper} {cv v:AV} {e:Env} {d:Nat} (ho:stoD d e o) (h:Does c ops s o cv e v s1) :
  v=.raw undef∧∃ b,s1=s.set d b∧∀ s2 cv2,s2.getD d .dead=s.getD d .dead→Does c ops s2 o cv2 e v (s2.set d b):=by
 unfold stoD at ho
 split at ho
 ·rename_i t x u hg hop
  split at ho
  ·rename_i i n j off hx
   subst ho
   unfold Does at h ⊢
   rw [hg] at h ⊢
   simp only at h ⊢
   unfold DoesOp at h ⊢
   rw [hop] at h ⊢
   simp only [xop,hx,xstore] at h ⊢
   cases hb:s.getD i .dead with
   | arr es l =>
    rw [hb] at h
    simp only [xstoreB] at h
    obtain ⟨h1,h2,h3,h4⟩:=h
    refine ⟨h3,_,h4,fun s2 cv2 hs=>?_⟩
    rw [hs]
    simp only [xstoreB]
    exact ⟨h1,h2,h3,trivial⟩
   | mp es=>rw [hb] at h; exact h.elim
   | it a b c=>rw [hb] at h; exact h.elim
   | dead=>rw [hb] at h; exact h.elim
  ·exact ho.elim
 ·exact ho.elim
theorem stoD_agree {d:Nat} {e e':Env} {o:Oper} (h:∀ x ∈ o.op.operands,ev e x=ev e' x) (hs:stoD d e o):stoD d e' o:=by
 unfold stoD at hs ⊢
 cases hg:o.guard with
 | some x=>rw [hg] at hs; exact hs.elim
 | none =>
  rw [hg] at hs
  cases ho:o.op <;> rw [ho] at hs <;> simp only at hs ⊢
  rw [← h _ (by rw [ho]; simp [Op.operands])]
  exact hs
theorem sck_agree {ids lk:List (Nat × Nat)} {i:Nat} {e e':Env} {s s':List Blk} {o:Oper} (h:∀ x ∈ o.op.operands,ev e x=ev e' x) (hs:s.length=s'.length) (hp:sck ids lk i e s o):sck ids lk i e' s' o:=by
 obtain ⟨h1,h2⟩:=hp
 refine ⟨?_,?_⟩
 ·cases hl:ids.lookup i with
  | none=>trivial
  | some d =>
   rw [hl] at h1
   simp only at h1 ⊢
   exact stoD_agree h h1
 ·cases hb:(reader o.op && !blind o.op) with
  | false=>trivial
  | true =>
   rw [hb] at h2
   simp only [cond_true] at h2 ⊢
   rw [List.all_eq_true] at h2 ⊢
   intro p hp
   rw [← opOk_agree h,← hs]
   exact h2 p hp
theorem sck_ok {ids lk:List (Nat × Nat)} {i:Nat} {e:Env} {s:List Blk} {o:Oper} (hp:sck ids lk i e s o) (hr:reader o.op=true) (hb:blind o.op=false) {j d:Nat} (hj:ids.lookup j=some d) (hlk:lk.contains (i,j)=false):opOk s.length d e o.op=true:=by
 have h2:=hp.2
 rw [hr,hb] at h2
 simp only [Bool.not_false,Bool.and_self,cond_true,List.all_eq_true] at h2
 have:∀ {l:List (Nat × Nat)},l.lookup j=some d→(j,d) ∈ l:=by
  intro l
  induction l with
  | nil=>intro h; simp at h
  | cons p r ih =>
   intro h
   rw [List.lookup_cons] at h
   split at h
   ·rename_i hq
    have hq:j=p.1:=by simpa using hq
    simp only [Option.some.injEq] at h
    subst hq; subst h
    exact List.mem_cons_self
   ·exact List.mem_cons_of_mem _ (ih h)
 have h3:=h2 _ (this hj)
 rw [hlk,Bool.false_or] at h3
 exact h3
theorem sck_put {ids lk:List (Nat × Nat)} {i d:Nat} {e:Env} {s:List Blk} {o:Oper} (hp:sck ids lk i e s o) (hl:ids.lookup i=some d):stoD d e o:=by
 have:=hp.1
 rw [hl] at this
 exact this
def ChO (c:Cx) (ops:Array Oper) (ids lk:List (Nat × Nat)) (K:Env→List Blk→Prop):List Nat→Env→List Blk→Prop
 | [],e,s=>K e s
 | i :: r,e,s=>match ops[i]? with
  | some o=>sck ids lk i e s o∧∃ cv v s',Does c ops s o cv e v s'∧ChO c ops ids lk K r (put e o.dst v) s'
  | none=>False
def okSo (ops:List Oper) (ids lk:List (Nat × Nat)) (j i:Nat):Bool:=match ops[j]?,ops[i]? with
 | some oj,some oi=>oj.apart ops.toArray oi && (together oj oi || (match ids.lookup j,ids.lookup i with
  | some a,some b=>a != b
  | some _,none=>reader oi.op && !lk.contains (i,j)
  | none,some _=>reader oj.op && !lk.contains (j,i)
  | none,none=>false))
 | _,_=>false
section
variable {cx:Cx} {ops:Array Oper} {K:Env→List Blk→Prop} {ids lk:List (Nat × Nat)}
theorem ChO.congr (hK:∀ e e' s,Eqv e e'→K e s→K e' s):∀ {l:List Nat} {e e':Env} {s:List Blk},Eqv e e'→ChO cx ops ids lk K l e s→ChO cx ops ids lk K l e' s
 | [],e,e',s,h,c=>hK e e' s h c
 | i :: r,e,e',s,h,c=>by
  unfold ChO at c ⊢
  split at c
  ·rename_i o ho
   obtain ⟨h0,cv,v,s',h1,h2⟩:=c
   exact ⟨sck_agree (fun x _=>ev_agree fun t _=>h t) rfl h0,cv,v,s',h1.agree fun t _=>h t,ChO.congr hK (h.put _ _) h2⟩
  ·exact c.elim
theorem ChO.swap {opl:List Oper} (hops:ops=opl.toArray) (hK:∀ e e' s,Eqv e e'→K e s→K e' s) {i j:Nat} {r:List Nat} (hok:okSo opl ids lk j i=true) {e:Env} {s:List Blk} (c:ChO cx ops ids lk K (j :: i :: r) e s) :
  ChO cx ops ids lk K (i :: j :: r) e s:=by
 unfold okSo at hok
 split at hok
 rotate_left
 ·cases hok
 rename_i oj oi hj' hi'
 have hj:ops[j]? = some oj:=by rw [hops]; simpa using hj'
 have hi:ops[i]? = some oi:=by rw [hops]; simpa using hi'
 simp only [Bool.and_eq_true,Bool.or_eq_true] at hok
 obtain ⟨ha,hok⟩:=hok
 rw [← hops] at ha
 obtain ⟨a1,a2,a3⟩:=Oper.apart_spec ha
 simp only [ChO,hj,hi] at c ⊢
 obtain ⟨pj,cv,v,s1,h1,pi,cu,u,s2,h2,h3⟩:=c
 have gi:∀ (e:Env) (v:AV),Agree ops oi (put e oj.dst v) e:=fun e v t ht=>by
  rw [get_put,if_neg]; intro h; exact a1 t h ht
 have gj:∀ (e:Env) (v:AV),Agree ops oj e (put e oi.dst v):=fun e v t ht=>by
  rw [get_put,if_neg]; intro h; exact a3 t h ht
 have h2':Does cx ops s1 oi cu e u s2:=h2.agree (gi e v)
 have h1':∀ {z z'},Does cx ops z oj cv e v z'→Does cx ops z oj cv (put e oi.dst u) v z':=fun hd=>hd.agree (gj e u)
 have h3':=ChO.congr hK (put_swap a2) h3
 have pi':∀ s',s1.length=s'.length→sck ids lk i e s' oi:=fun s' hs=>sck_agree (agree_ops (gi e v)) hs pi
 have pj':∀ s',s.length=s'.length→sck ids lk j (put e oi.dst u) s' oj:=fun s' hs=>sck_agree (agree_ops (gj e u)) hs pj
 rcases hok with hok | hok
 ·simp only [together,Bool.or_eq_true,Bool.and_eq_true] at hok
  have blind_free:∀ {o:Oper} {k:Nat} {e:Env} {s s':List Blk},blind o.op=true→sck ids lk k e s o→sck ids lk k e s' o:=fun hb hp=>⟨hp.1,by simp [hb]⟩
  rcases hok with (⟨c1,c2⟩ | c1) | c1
  ·have e1:=h1.calm c1
   subst e1
   have e2:=h2.calm c2
   subst e2
   exact ⟨pi' _ rfl,cu,u,_,h2',pj' _ rfl,cv,v,_,h1' h1,h3'⟩
  ·have e1:=h1.calm (blind_calm c1)
   subst e1
   exact ⟨pi' _ rfl,cu,u,_,h2',blind_free c1 (pj' _ rfl),cv,v,_,h1' (h1.blind c1),h3'⟩
  ·have e2:=h2.calm (blind_calm c1)
   subst e2
   exact ⟨blind_free c1 (pi' _ rfl),cu,u,_,h2'.blind c1,pj' _ rfl,cv,v,_,h1' h1,h3'⟩
 split at hok
 ·rename_i a b hla hlb
  have hab:a ≠ b:=by simpa using hok
  obtain ⟨hv,bj,rfl,hdj⟩:=sto_does (sck_put pj hla) h1
  obtain ⟨hu,bi,rfl,hdi⟩:=sto_does (sck_put (pi' _ rfl) hlb) h2'
  have n1:(s.set b bi).getD a .dead=s.getD a .dead:=by simp only [List.getD,List.getElem?_set_ne (Ne.symm hab)]
  have n2:s.getD b .dead=(s.set a bj).getD b .dead:=by simp only [List.getD,List.getElem?_set_ne hab]
  refine ⟨pi' _ (by simp),cu,u,_,hdi s cu n2,pj' _ (by simp),cv,v,_,h1' (hdj _ cv n1),?_⟩
  rw [List.set_comm _ _ (Ne.symm hab)]
  exact h3'
 ·rename_i a hla hlb
  simp only [Bool.and_eq_true,Bool.not_eq_true'] at hok
  obtain ⟨hok,hlk⟩:=hok
  obtain ⟨hv,bj,rfl,hdj⟩:=sto_does (sck_put pj hla) h1
  have ok0:blind oi.op=false→opOk s.length a e oi.op=true:=fun hb=>sck_ok (pi' s (by simp)) hok hb hla hlk
  obtain ⟨e1,ds⟩:=does_reader hok ok0 ((Agr.set (s:=s) (id:=a) bj).symm) h2'
  subst e1
  exact ⟨pi' _ (by simp),cu,u,_,ds,pj' _ rfl,cv,v,_,h1' h1,h3'⟩
 ·rename_i b hla hlb
  simp only [Bool.and_eq_true,Bool.not_eq_true'] at hok
  obtain ⟨hok,hlk⟩:=hok
  have ok0:blind oj.op=false→opOk s.length b e oj.op=true:=fun hb=>sck_ok pj hok hb hlb hlk
  obtain ⟨rfl,_⟩:=does_reader hok ok0 (Agr.set (id:=b) .dead) h1
  obtain ⟨hu,bi,rfl,hdi⟩:=sto_does (sck_put (pi' _ rfl) hlb) h2'
  have hs:=(does_reader hok ok0 (Agr.set (id:=b) bi) h1).2
  exact ⟨pi' _ rfl,cu,u,_,h2',pj' _ (by simp),cv,v,_,h1' hs,h3'⟩
 ·cases hok
theorem ChO.front {opl:List Oper} (hops:ops=opl.toArray) (hK:∀ e e' s,Eqv e e'→K e s→K e' s) {i:Nat} {r:List Nat}:∀ {l:List Nat} {e:Env} {s:List Blk},(∀ j ∈ l,okSo opl ids lk j i=true) →
  ChO cx ops ids lk K (l++i :: r) e s→ChO cx ops ids lk K (i :: (l++r)) e s
 | [],_,_,_,c=>c
 | j :: l,e,s,h,c=>by
  refine ChO.swap hops hK (h j (by simp)) ?_
  simp only [List.cons_append,ChO] at c ⊢
  split at c
  ·rename_i o ho
   obtain ⟨h0,cv,v,s',h1,h2⟩:=c
   exact ⟨h0,cv,v,s',h1,ChO.front hops hK (fun k hk=>h k (by simp [hk])) h2⟩
  ·exact c.elim
end
section
variable {c:Cx} {k:List It} {e:Env} {s:List Blk}
end
end Go.Av
namespace Go.Av
open Go Go.RowKit
variable [Tr]
section
variable {c:Cx} {K:Env→List Blk→Prop} {e:Env} {s:List Blk}
mutual
def dxh (c:Cx) (all:List Oper) (ck:Nat→Env→List Blk→Oper→Prop) (K:Env→List Blk→Prop):Nat→List Oper→List AV→Env→List Blk→Prop
 | _,[],_,e,s=>K e s
 | 0,_ :: _,_,_,_=>False
 | n+1,o :: r,cs,e,s=>ck (rix all (o :: r)) e s o∧dxhc c all ck K n (dgrd c all s o r cs e o.guard)
def dxhc (c:Cx) (all:List Oper) (ck:Nat→Env→List Blk→Oper→Prop) (K:Env→List Blk→Prop):Nat→Dn→Prop
 | n,.go r cs e s=>dxh c all ck K n r cs e s
 | n,.two b r cs e r' cs' e' s=>dbrh c all ck K n b r cs e r' cs' e' s
 | n,.side p r cs e s=>p∧dxh c all ck K n r cs e s
 | _,.fail=>False
def dbrh (c:Cx) (all:List Oper) (ck:Nat→Env→List Blk→Oper→Prop) (K:Env→List Blk→Prop):Nat→Bool→List Oper→List AV→Env→List Oper→List AV→Env→List Blk→Prop
 | 0,_,_,_,_,_,_,_,_=>False
 | n+1,b,r,cs,e,r',cs',e',s=>(b=true→dxh c all ck K n r cs e s)∧(b=false→dxh c all ck K n r' cs' e' s)
end
theorem dbrh_true {all:List Oper} {ck:Nat→Env→List Blk→Oper→Prop} {n:Nat} {r cs e r' cs' e' s}:dbrh c all ck K (n+1) true r cs e r' cs' e' s=dxh c all ck K n r cs e s:=by rw [dbrh]; simp
theorem dbrh_false {all:List Oper} {ck:Nat→Env→List Blk→Oper→Prop} {n:Nat} {r cs e r' cs' e' s}:dbrh c all ck K (n+1) false r cs e r' cs' e' s=dxh c all ck K n r' cs' e' s:=by rw [dbrh]; simp
theorem dxh_op {all:List Oper} {ck:Nat→Env→List Blk→Oper→Prop} {n:Nat} {o:Oper} {r:List Oper} {cs:List AV} (hg:o.guard=none) (h:dxh c all ck K n (o :: r) cs e s) :
  ck (rix all (o :: r)) e s o∧∃ cv v n' cs' s',DoesOp c s o cv e v s'∧dxh c all ck K n' r cs' (put e o.dst v) s':=by
 cases n with
 | zero=>rw [dxh] at h; exact h.elim
 | succ n =>
  rw [dxh] at h
  refine ⟨h.1,?_⟩
  replace h:=h.2
  rw [hg] at h
  unfold dgrd at h
  unfold DoesOp
  revert h
  cases xop false true c.P e s o.op with
  | ok u=>intro h; simp only [dres,dxhc] at h; exact ⟨.any,u,n,cs,s,⟨rfl,rfl⟩,h⟩
  | side p u=>intro h; simp only [dres,dxhc] at h; exact ⟨.any,u,n,cs,s,⟨h.1,rfl,rfl⟩,h.2⟩
  | sto p u s'=>intro h; simp only [dres,dxhc] at h; exact ⟨.any,u,n,cs,s',⟨h.1.1,h.1.2,rfl,rfl⟩,h.2⟩
  | pick b x y =>
   intro h; simp only [dres,dxhc] at h
   cases n with
   | zero=>rw [dbrh] at h; exact h.elim
   | succ n =>
   rw [dbrh] at h
   refine ⟨.any,_,n,cs,s,⟨rfl,rfl⟩,?_⟩
   cases b with
   | true=>exact h.1 rfl
   | false=>exact h.2 rfl
  | call f args =>
   intro h; simp only [dres] at h
   cases cs with
   | nil=>simp only [dcall,dxhc] at h
   | cons cv cs=>simp only [dcall,dxhc] at h; exact ⟨cv,cv,n,cs,s,⟨h.1.1,h.1.2,rfl,rfl⟩,h.2⟩
  | anyb p=>intro h; simp only [dres,dxhc] at h
  | stuck=>intro h; simp only [dres,dxhc] at h
theorem dxh_step {all:List Oper} {ck:Nat→Env→List Blk→Oper→Prop} {n:Nat} {o:Oper} {r:List Oper} {cs:List AV} (h:dxh c all ck K n (o :: r) cs e s) :
  ck (rix all (o :: r)) e s o∧∃ cv v n' cs' s',Does c all.toArray s o cv e v s'∧dxh c all ck K n' r cs' (put e o.dst v) s':=by
 cases hg:o.guard with
 | none =>
  obtain ⟨h0,cv,v,n',cs',s',h1,h2⟩:=dxh_op hg h
  exact ⟨h0,cv,v,n',cs',s',by unfold Does; rw [hg]; exact h1,h2⟩
 | some jw =>
  obtain ⟨j,want⟩:=jw
  cases n with
  | zero=>rw [dxh] at h; exact h.elim
  | succ n =>
   rw [dxh] at h
   refine ⟨h.1,?_⟩
   replace h:=h.2
   rw [hg] at h
   unfold dgrd dyld at h
   cases hy:yldD want e all[j]? with
   | none=>simp only [hy,dxhc] at h
   | some b =>
    simp only [hy] at h
    have key:(b=want→∃ n',dxh c all ck K n' ({ o with guard:=none } :: r) cs e s)∧(b ≠ want→∃ n',dxh c all ck K n' r cs (put e o.dst (.raw undef)) s):=by
     cases n with
     | zero=>cases want <;> simp only [cond_true,cond_false,dxhc,dbrh] at h
     | succ n =>
      cases want <;> simp only [cond_true,cond_false,dxhc,dbrh] at h <;> cases b <;>
       first
       | exact ⟨fun _=>⟨n,h.1 rfl⟩,fun hh=>(hh rfl).elim⟩
       | exact ⟨fun _=>⟨n,h.2 rfl⟩,fun hh=>(hh rfl).elim⟩
       | exact ⟨fun hh=>(by cases hh),fun _=>⟨n,h.1 rfl⟩⟩
       | exact ⟨fun hh=>(by cases hh),fun _=>⟨n,h.2 rfl⟩⟩
    have hy':yldD want e all.toArray[j]? = some b:=by simpa using hy
    by_cases hb:b=want
    ·obtain ⟨n1,h1⟩:=key.1 hb
     obtain ⟨_,cv,v,n',cs',s',h1,h2⟩:=dxh_op (o:={ o with guard:=none }) rfl h1
     refine ⟨cv,v,n',cs',s',?_,h2⟩
     unfold Does
     rw [hg]
     simp only [hy']
     exact .inl ⟨hb,h1⟩
    ·obtain ⟨n1,h1⟩:=key.2 hb
     refine ⟨.any,.raw undef,n1,cs,s,?_,h1⟩
     unfold Does
     rw [hg]
     simp only [hy']
     exact .inr ⟨hb,trivial,trivial⟩
theorem chO_of_dxh {all:List Oper} {ids lk:List (Nat × Nat)}:∀ {r:List Oper} {m n:Nat} {cs:List AV} {e:Env} {s:List Blk},(∀ (j:Nat),r[j]? = all[m+j]?)→all.length=m+r.length→dxh c all (sck ids lk) K n r cs e s→ChO c all.toArray ids lk K (List.range' m r.length) e s
 | [],m,n,cs,e,s,_,_,h=>by
  rw [dxh] at h
  exact h
 | o :: r,m,n,cs,e,s,hr,hlen,h=>by
  obtain ⟨h0,cv,v,n',cs',s',h1,h2⟩:=dxh_step h
  have hat:all.toArray[m]? = some o:=by have:=hr 0; simpa using this.symm
  have hix:rix all (o :: r)=m:=by unfold rix; omega
  rw [hix] at h0
  simp only [List.length_cons,List.range'_succ,ChO,hat]
  exact ⟨h0,cv,v,s',h1,chO_of_dxh (fun j=>by have:=hr (j+1); simpa [Nat.add_assoc,Nat.add_comm 1 j] using this) (by simp at hlen; omega) h2⟩
end
section
variable {r:Cr} {k:List It} {e:Env} {s:List Blk}
theorem adrawOR (ids lk:List (Nat × Nat)) (cs:List AV) {id:Nat} {ops:List Oper} (hm:r.c.P.follows .mixedOrders=true) (hok:drawOkG (okSo ops ids lk) ops=true) {N:Nat} (hN:r.c.fn.ntmps=N) (hdst:ops.all (fun o=>dOk N o.dst)=true) (n:Nat)
  (h:dxh r.c ops (sck ids lk) (fun e s=>AWpR r k e s) n ops cs e s):AWpR r (.code (.region id ops.toArray true) :: k) e s:=by
 intro a w hsim
 have hch:=chO_of_dxh (m:=0) (by intro j; simp) (by simp) h
 rw [← List.range_eq_range'] at hch
 refine wpIn_region_any hm ?_
 have hsim':SimR r e s a { w with drawn:=w.drawn+1 }:=by
  obtain ⟨hh,ρ,hmm,hl,he,hdf,hsz,hX⟩:=hsim
  have sm:Same w { w with drawn:=w.drawn+1 }:=Same.drew w
  exact ⟨hh,ρ,hmm.same sm,hl.trans (Later.same sm),he,hdf,hsz,r.c.hx.later hmm (Later.same sm) hX⟩
 have hd:∀ o ∈ ops,dOk r.c.fn.ntmps o.dst=true:=fun o ho=>by rw [hN]; exact (List.all_eq_true.1 hdst) o ho
 refine any_of_genR (okp:=okSo ops ids lk) (ChO r.c ops.toArray ids lk (fun e s=>AWpR r k e s)) hok (fun e s x=>x) (fun l i r' e s hj x=>ChO.front rfl AWpR.K hj x)
  (fun i o r' e s a w Kc ho x hs hK=>?_)
  ops.length (Array.replicate ops.length false) (List.range ops.length) e s a _ (by simp) ?_ (by simp) ?_ hch hsim'
 ·have ho':ops.toArray[i]? = some o:=by simpa using ho
  simp only [ChO,ho'] at x
  obtain ⟨_,cv,v,s',h1,h2⟩:=x
  exact does_wpR hs (hd o (List.mem_of_getElem? ho)) h1 fun a w hs'=>hK _ _ a w h2 hs'
 ·symm
  rw [List.filter_eq_self]
  intro i hi
  simp at hi
  simp [hi]
 ·intro i hi j hj
  exfalso
  by_cases h1:i < ops.length
  ·simp [h1] at hi
  ·unfold waits at hj
   have:ops[i]? = none:=by simp; omega
   simp [this] at hj
end
theorem aretcM {P:Program} {fn:Func} {h0:Mem} {ρ0:Own} {sto0:List Blk} {w0:World} {post:AV→List Blk→Prop} {e:Env} {s:List Blk} {D:Nat} {x:Exit} (hx:x=.normal∨x=.ret) (hD:w0.heap.size ≤ D) (rs:List ResultVar) (hr:fn.results=rs.toArray) (vals:List AV) (hv:ResOk P e s rs vals)
  (hp:post (resT vals) s):AOut (mkM P fn h0 ρ0 sto0 w0 post [D]) x e s:=by
 intro a w hsim
 obtain ⟨h,ρ,hm,hl,he,hdf,hsz,hX⟩:=hsim
 have hK:=(hX (D,.deferred (some [])) (by simp [DfO])).1
 have hun:=(hX (D,.deferred (some [])) (by simp [DfO])).2
 have hdf:a.defers=[{ target:=.collected D,args:=#[] }]:=hdf
 have hm':=hm.putObj (x:=.deferred none) hK rfl hun
 have hl':=hl.putNew (l:=D) (x:=.deferred none) hD
 obtain ⟨vs,h1,h2⟩:=results_cells (c:=⟨P,fn,h0,ρ0,sto0,w0,post,X0,stb0⟩) hm' he hv
 have hrv:RV h (Lf ρ s) false (tupV vs) (resT vals):=by
  cases h2 with
  | nil=>exact .tup _ _ .nil
  | cons r1 r2 =>
   cases r2 with
   | nil=>exact r1
   | cons r2 r3=>exact .tup _ _ (.cons r1 (.cons r2 r3))
 have:LeavesInM Fence.wide 0 P fn a.tmps (fun en w'=>∃ v r s h' ρ',en=.returned v∧post r s∧Mine h' ρ' s w'∧Later h0 ρ0 sto0 w0 h' ρ' s w'∧RV h' (Lf ρ' s) false v r) a.defers .returning w:=by
  rw [hdf]
  exact ⟨by simp,.inl ⟨D,_,rfl,run_takeDeferred hK,_,results_eq rs hr _ h1,_,_,s,h,ρ,rfl,hp,hm',hl',hrv⟩⟩
 rcases hx with rfl | rfl <;> exact this
end Go.Av
namespace Go.Proofs.YtnfkjpihaficbaaGreatDoor
open Go Go.Av Go.RowKit
def rpItems (j:Nat):List AV:=[itHashA,itGunA].take j
def rpT (j:Nat) (q:List UInt8):List Blk:=[.arr 1 [.raw (.slice none 0 0)],.arr 1 [.bool false],.arr 1 [.sl 7 0 (rpItems j).length (rpItems j).length],.arr 1 [.bool (decide (2 ≤ j))],.arr 1 [.str q],.arr 1 [.str [32]],.arr 1 [.int .i64 0],.arr 4 (rpItems j)]
set_option maxHeartbeats 4000000 in
theorem readPattern_pch {St:Std} (hS:LibOk St):PcH Tryz.prog St 104 [.str [35,32,103,117,110,42]] (· = .tup [.fz 4 [itHashA,itGunA],.bool true]):=by
 have hsp:splitW [35,32,103,117,110,42]=[[35],[103,117,110,42]]:=by decide
 refine pch_intro (cthM_intro Tryz.func104 rfl Tryz.ntmps104 hB104 (by simp) fun h ρ w hg=>?_)
 refine goR (N:=37) Tryz.ntmps104 300 ?_
 simp only [go_sem,runR,contR,brR,step1R,resNR,stopNR,exitNR,dxk,dxkc,dbrk,↓brR_true,↓brR_false,↓dbrk_true,↓dbrk_false]
 refine acallR (splitSeqB_ct _ _ [32]) (N:=37) Tryz.ntmps104 rfl ?_
 rintro _ _ ⟨rfl,rfl⟩
 refine goR (N:=37) Tryz.ntmps104 300 ?_
 simp only [go_sem,runR,contR,brR,step1R,resNR,stopNR,exitNR,dxk,dxkc,dbrk,↓brR_true,↓brR_false,↓dbrk_true,↓dbrk_false]
 refine AWpR.shift (Shift.cells 2 4 [.sl 7 0 0 0] rfl rfl (by simp [cellsOf]) ⟨.sl,trivial⟩) ?_
 refine arange (S:=fun j q=>rpT j q) (q0:=[35,32,103,117,110,42]) (xs:=(splitW [35,32,103,117,110,42]).map .str) (E1:=fun j=>[(6,.str ((splitW [35,32,103,117,110,42]).getD j [])),(2,.ptr 0 1 0 0),(3,.ptr 1 1 0 0),(4,.ptr 2 1 0 0),(5,.ptr 3 1 0 0)]) hg rfl rfl
  (splitSeq_it hS _ (by decide) _ 5 4 6 (fun _ _=>rfl) (fun _ _=>rfl) (fun _ _=>rfl) (fun _ _ _=>rfl)) (by decide) ?_ ?_ ?_
 ·intro j q x h1 ρ1 w1 l id J hx hle hJ
  rw [hsp] at hx hJ
  have hj:j=0∧x=.str [35]∨j=1∧x=.str [103,117,110,42]:=by
   match j,hx with
   | 0,hx=>exact .inl ⟨rfl,(Option.some.inj hx).symm⟩
   | 1,hx=>exact .inr ⟨rfl,(Option.some.inj hx).symm⟩
   | j+2,hx=>cases hx
  rcases hj with ⟨rfl,rfl⟩ | ⟨rfl,rfl⟩
  ·refine goR (N:=37) Tryz.ntmps104 300 ?_
   simp only [go_sem,runR,contR,brR,step1R,resNR,stopNR,exitNR,dxk,dxkc,dbrk,↓brR_true,↓brR_false,↓dbrk_true,↓dbrk_false]
   refine ainvR hJ (Shift.weak ?_)
   simp only [wk,go_sem]
  ·refine goR (N:=37) Tryz.ntmps104 300 ?_
   simp only [go_sem,runR,contR,brR,step1R,resNR,stopNR,exitNR,dxk,dxkc,dbrk,↓brR_true,↓brR_false,↓dbrk_true,↓dbrk_false]
   refine ainvR hJ (Shift.weak ?_)
   simp only [wk,go_sem]
 ·intro j q x h1 ρ1 w1 l id J hx hle hJ
  rw [hsp] at hx ⊢
  have hj:j=0∧x=.str [35]∨j=1∧x=.str [103,117,110,42]:=by
   match j,hx with
   | 0,hx=>exact .inl ⟨rfl,(Option.some.inj hx).symm⟩
   | 1,hx=>exact .inr ⟨rfl,(Option.some.inj hx).symm⟩
   | j+2,hx=>cases hx
  rcases hj with ⟨rfl,rfl⟩ | ⟨rfl,rfl⟩
  ·have hr:=readHash_pc
   have e0:rpT 0 q=[.arr 1 [.raw (.slice none 0 0)],.arr 1 [.bool false],.arr 1 [.sl 7 0 0 0],.arr 1 [.bool false],.arr 1 [.str q],.arr 1 [.str [32]],.arr 1 [.int .i64 0],.arr 4 []]:=rfl
   have e1:rpT (0+1) q=[.arr 1 [.raw (.slice none 0 0)],.arr 1 [.bool false],.arr 1 [.sl 7 0 1 1],.arr 1 [.bool false],.arr 1 [.str q],.arr 1 [.str [32]],.arr 1 [.int .i64 0],.arr 4 [itHashA]]:=rfl
   rw [e0]
   rw [e1] at hJ
   simp only [itHashA] at hr hJ
   refine goFR (N:=37) Tryz.ntmps104 300 ?_
   simp only [go_sem,runR,contR,brR,step1R,resNR,stopNR,exitNR,dxk,dxkc,dbrk,↓brR_true,↓brR_false,↓dbrk_true,↓dbrk_false]
   refine pcallR1 (hr) rfl (N:=37) Tryz.ntmps104 rfl (goFR (N:=37) Tryz.ntmps104 300 ?_)
   simp only [go_sem,runR,contR,brR,step1R,resNR,stopNR,exitNR,dxk,dxkc,dbrk,↓brR_true,↓brR_false,↓dbrk_true,↓dbrk_false]
   repeat refine And.intro (by first | rfl | exact .inl trivial | exact .inl rfl) ?_
   exact ainvR hJ (Shift.trans (Shift.low 8 (e':=[]) (by first | exact Nat.le_refl _ | simp) (by simp) rfl trivial) (Shift.weakS trivial rfl))
  ·have hr:=readGun_pc
   have e1:rpT 1 q=[.arr 1 [.raw (.slice none 0 0)],.arr 1 [.bool false],.arr 1 [.sl 7 0 1 1],.arr 1 [.bool false],.arr 1 [.str q],.arr 1 [.str [32]],.arr 1 [.int .i64 0],.arr 4 [itHashA]]:=rfl
   have e2:rpT (1+1) q=[.arr 1 [.raw (.slice none 0 0)],.arr 1 [.bool false],.arr 1 [.sl 7 0 2 2],.arr 1 [.bool true],.arr 1 [.str q],.arr 1 [.str [32]],.arr 1 [.int .i64 0],.arr 4 [itHashA,itGunA]]:=rfl
   rw [e1]
   rw [e2] at hJ
   simp only [itHashA,itGunA] at hr hJ ⊢
   refine goFR (N:=37) Tryz.ntmps104 300 ?_
   simp only [go_sem,runR,contR,brR,step1R,resNR,stopNR,exitNR,dxk,dxkc,dbrk,↓brR_true,↓brR_false,↓dbrk_true,↓dbrk_false]
   refine pcallR1 (hr) rfl (N:=37) Tryz.ntmps104 rfl (goFR (N:=37) Tryz.ntmps104 300 ?_)
   simp only [go_sem,runR,contR,brR,step1R,resNR,stopNR,exitNR,dxk,dxkc,dbrk,↓brR_true,↓brR_false,↓dbrk_true,↓dbrk_false]
   repeat refine And.intro (by first | rfl | exact .inl trivial | exact .inl rfl) ?_
   exact ainvR hJ (Shift.trans (Shift.low 8 (e':=[]) (by first | exact Nat.le_refl _ | simp) (by simp) rfl trivial) (Shift.weakS trivial rfl))
 ·intro D q hD
  have e2:rpT (List.map AV.str (splitW [35,32,103,117,110,42])).length q=[.arr 1 [.raw (.slice none 0 0)],.arr 1 [.bool false],.arr 1 [.sl 7 0 2 2],.arr 1 [.bool true],.arr 1 [.str q],.arr 1 [.str [32]],.arr 1 [.int .i64 0],.arr 4 [itHashA,itGunA]]:=by
   rw [hsp]
   rfl
  rw [e2]
  refine AWpR.shift (Shift.trans (Shift.frz 7 (es:=4) (l:=[itHashA,itGunA]) rfl rfl) (Shift.weakS (e':=[(2,.ptr 0 1 0 0),(3,.ptr 1 1 0 0),(4,.ptr 2 1 0 0),(5,.ptr 3 1 0 0)]) (s':=[.arr 1 [.raw (.slice none 0 0)],.arr 1 [.bool false],.arr 1 [.fz 4 [itHashA,itGunA]],.arr 1 [.bool true],.arr 1 [.str q],.arr 1 [.str [32]],.arr 1 [.int .i64 0],.dead]) ?_ rfl)) ?_
  ·exact ⟨rfl,rfl,rfl,rfl,trivial⟩
  refine goFR (N:=37) Tryz.ntmps104 300 ?_
  simp only [go_sem,runR,contR,brR,step1R,resNR,stopNR,exitNR,dxk,dxkc,dbrk,↓brR_true,↓brR_false,↓dbrk_true,↓dbrk_false]
  refine adrawOR [(7,0),(8,1)] [] [] mixed (by decide) (N:=37) Tryz.ntmps104 (by decide) 100 ?_
  simp only [go_sem,runR,contR,brR,step1R,resNR,stopNR,exitNR,dxk,dxkc,dbrk,↓brR_true,↓brR_false,↓dbrk_true,↓dbrk_false,Go.Av.dxh,Go.Av.dxhc,↓Go.Av.dbrh_true,↓Go.Av.dbrh_false,Go.Av.dbrh,Go.Av.sck,Go.Av.stoD]
  repeat refine And.intro (by first | rfl | decide) ?_
  refine goFR (N:=37) Tryz.ntmps104 300 ?_
  simp only [go_sem,runR,contR,brR,step1R,resNR,stopNR,exitNR,dxk,dxkc,dbrk,↓brR_true,↓brR_false,↓dbrk_true,↓dbrk_false]
  exact aretcM (.inr rfl) hD [.cell 2 188,.cell 3 4] rfl [.fz 4 [itHashA,itGunA],.bool true] ⟨by simp only [go_sem,sideIs],by simp only [go_sem,sideIs],trivial⟩ ⟨rfl,rfl⟩
theorem tagsTrue_pch {S:Std} (hS:LibOk S):PcH Tryz.prog S 12 [] (· = .bool true):=tags_pch (readPattern_pch hS)
end Go.Proofs.YtnfkjpihaficbaaGreatDoor
