/- Own texts, one behind the other. No condition. -/
import Derived.Test.YtipdlnejmcmbbaaGreatDoorObPkAA
import Derived.Orders
set_option linter.unusedVariables false
set_option maxRecDepth 100000
set_option maxHeartbeats 8000000
set_option linter.unusedSimpArgs false
namespace Go.Proofs.YtipdlnejmcmbbaaGreatDoor
section
open Go.RowKit
set_option linter.unusedSectionVars false
def Gr (w w':World):Prop:=Below w.heap.size w w'
theorem Gr.refl (w:World):Gr w w:=Below.refl _ _
theorem Gr.trans {a b c:World} (h:Gr a b) (k:Gr b c):Gr a c:=bBo h k
theorem Gr.alloc (w:World) (o:Obj):Gr w (w.alloc o):=(Below.refl _ _).alloc (Nat.le_refl _) _
theorem Gr.drew (w:World):Gr w w.drew:=(Below.refl _ _).drew
theorem Xk {w w':World} (h:Gr w.drew w'):Gr w w':=(Gr.drew w).trans h
theorem Xj {w w':World} (h:Gr w w':=by repeat (first|exact Gr.refl _|refine Gr.trans ?_ (Gr.drew _)|refine Gr.trans ?_ (Gr.alloc _ _))):Gr w w':=h
theorem Gr.size {w w':World} (h:Gr w w'):w.heap.size≤w'.heap.size:=Below.size h
theorem Gr.blk {w w':World} {g:Nat} {t:TypeId} {cs:List Value} (h:Gr w w') (hb:Blk w g t cs):Blk w' g t cs:=hb.mono h
def dF:Exit→Act→World→Prop:=fun _ _ _=>False
def pLa (P:Program) (o:Oper) (a:Act) (w:World) (v:Value):Prop:=
 match (execOp a.eval o).run P w with
 | .ok (.value u) w'=>w'=w∧u=v
 | .ok .skip w'=>w'=w∧v=undef
 |_=>False
def vI (P:Program) (o:Oper) (t:TypeId) (z:Array Value):Prop:=
 ∀ρ w,(execOp ρ o).run P w= .ok (.value (.pointer (some ⟨w.heap.size,0,none⟩))) (w.alloc (.cells z t))
class LtO (Lt:World→World→Prop):Prop where
 refl:∀w,Lt w w
 trans:∀{a b c},Lt a b→Lt b c→Lt a c
 size:∀{w w'},Lt w w'→w.heap.size≤w'.heap.size
 gr:∀{w w'},Gr w w'→Lt w w'
instance:LtO Gr:=⟨Gr.refl,Gr.trans,Gr.size,id⟩
class OwL (P:Program) (ow:Oper→Act→World→(Act→World→Prop)→Prop):Prop where
 mono:∀{o a w K K'},(∀a w,K a w→K' a w)→ow o a w K→ow o a w K'
 value:∀{o a w v w' K},(execOp a.eval o).run P w= .ok (.value v) w'→K (a.put o.dst v) w'→ow o a w K
 skip:∀{o a w w' K},(execOp a.eval o).run P w= .ok .skip w'→K (a.put o.dst undef) w'→ow o a w K
 Li:∀{ops:Array Oper} {o x:Oper} {a w K u},(∀d,x.dst=some d→d∉o.looksAt ops)→(∀d,x.dst=some d→o.dst≠some d)→(∀cs b,o.op≠ .select cs b)→ow o a w K→ow o (a.put x.dst u) w (fun a' w'=>∃ds v,a'=(({a with defers:=ds}:Act).put o.dst v).put x.dst u∧K (({a with defers:=ds}:Act).put o.dst v) w')
 dK:∀{ops:Array Oper} {o x:Oper} {a w K u},(∀d,x.dst=some d→d∉o.looksAt ops)→(∀d,x.dst=some d→o.dst≠some d)→(∀cs b,o.op≠ .select cs b)→ow o (a.put x.dst u) w K→ow o a w (fun a' w'=>∃ds v,a'=({a with defers:=ds}:Act).put o.dst v∧K (a'.put x.dst u) w')
inductive Kd where
 |c
 |t
 |s
inductive St where
 |p (i:Nat)
 |q (i:Nat)
 |m (i:Nat) (t:TypeId) (z:Array Value)
 |x (k:Kd) (i:Nat)
abbrev St.c (i:Nat):St:= .x .c i
abbrev St.t (i:Nat):St:= .x .t i
abbrev St.s (i:Nat):St:= .x .s i
def St.i:St→Nat
 | .p i=>i
 | .q i=>i
 | .m i _ _=>i
 | .x _ i=>i
def St.may:St→St→Bool
 | .p _,_=>true
 | .q _,.x .s _=>false
 | .q _,.x .t _=>false
 | .q _,_=>true
 | .m ..,.m ..=>true
 | .x .s _,_=>false
 | .x _ _,.m ..=>true
 |_,_=>false
def Ll (Lt Rt:World→World→Prop):Kd→World→World→Prop
 | .c=>Lt
 | .t=>Rt
 | .s=>fun _ _=>True
def wpG (ow:Oper→Act→World→(Act→World→Prop)→Prop) (Lt Rt:World→World→Prop) (P:Program) (ops:Array Oper) (Q:Act→World→Prop) (base:Nat):List St→List (Nat×Nat)→Act→World→Prop
 | [],_,a,w=>∀w',Gr w w'→Q a w'
 |y::l,I,a,w=>match ops[y.i]? with
  |none=>False
  |some o=>if Region.wanted o (yielded ops a.tmps)=true then match y with
   | .p _=>∃v,(∀w',pLa P o a w' v)∧wpG ow Lt Rt P ops Q base l I (a.put o.dst v) w
   | .q _=>∃v,(∀w',Lt w w'→pLa P o a w' v)∧wpG ow Lt Rt P ops Q base l I (a.put o.dst v) w
   | .m _ t z=>∀w' b,Gr w w'→base≤b→Blk w' b t z.toList→(∀p∈I,b<p.1∨p.2≤b)→wpG ow Lt Rt P ops Q base l I (a.put o.dst (.pointer (some ⟨b,0,none⟩))) w'
   | .x k _=>∀w',Gr w w'→ow o a w' (fun a' w''=>Ll Lt Rt k w' w''∧wpG ow Lt Rt P ops Q base l ((w'.heap.size,w''.heap.size)::I) a' w'')
   else wpG ow Lt Rt P ops Q base l I (a.put o.dst undef) w
section
variable {ow:Oper→Act→World→(Act→World→Prop)→Prop} {Lt Rt:World→World→Prop} {P:Program} {tt:TypeId→Prop} {ops:Array Oper} {Q:Act→World→Prop} {base:Nat} {md:Region.Mode}
theorem xI {o:Oper} {a a':Act} {w:World} {u v:Value} (he:execOp a'.eval o=execOp a.eval o) (h:pLa P o a w u) (k:pLa P o a' w v):v=u:=by
 unfold pLa at *
 rw[he] at k
 generalize (execOp a.eval o).run P w=r at *
 cases r with
 |ok n w'=>cases n<;>simp only at h k<;>first|(exact k.2.symm.trans h.2)|(exact k.2.trans h.2.symm)|exact h.elim
 |halt x w'=>exact h.elim
theorem pLo {o:Oper} {a a':Act} {w:World} {u:Value} (he:execOp a'.eval o=execOp a.eval o) (h:pLa P o a w u):pLa P o a' w u:=by
 unfold pLa at *
 rw[he]
 exact h
section
variable {i:Nat} {o:Oper} {l:List St} {I:List (Nat×Nat)} {a:Act} {w:World}
theorem wPe (ho:ops[i]?=some o) (hw:Region.wanted o (yielded ops a.tmps)=true) (h:∃v,(∀w',pLa P o a w' v)∧wpG ow Lt Rt P ops Q base l I (a.put o.dst v) w):wpG ow Lt Rt P ops Q base (.p i::l) I a w:=by
 unfold wpG
 simp only[St.i,ho,hw,if_true]
 exact h
theorem wQe (ho:ops[i]?=some o) (hw:Region.wanted o (yielded ops a.tmps)=true) (h:∃v,(∀w',Lt w w'→pLa P o a w' v)∧wpG ow Lt Rt P ops Q base l I (a.put o.dst v) w):wpG ow Lt Rt P ops Q base (.q i::l) I a w:=by
 unfold wpG
 simp only[St.i,ho,hw,if_true]
 exact h
theorem SI (ho:ops[i]?=some o) (hw:Region.wanted o (yielded ops a.tmps)=true) (v:Value) (hv:∀w',pLa P o a w' v) (h:wpG ow Lt Rt P ops Q base l I (a.put o.dst v) w):wpG ow Lt Rt P ops Q base (.p i::l) I a w:=wPe ho hw ⟨v,hv,h⟩
theorem SH (ho:ops[i]?=some o) (hw:Region.wanted o (yielded ops a.tmps)=true) (v:Value) (hv:∀w',Lt w w'→pLa P o a w' v) (h:wpG ow Lt Rt P ops Q base l I (a.put o.dst v) w):wpG ow Lt Rt P ops Q base (.q i::l) I a w:=wQe ho hw ⟨v,hv,h⟩
theorem EG (ho:ops[i]?=some o) (hw:Region.wanted o (yielded ops a.tmps)=true) {t:TypeId} {z:Array Value} (h:∀w' b,Gr w w'→base≤b→Blk w' b t z.toList→(∀p∈I,b<p.1∨p.2≤b)→wpG ow Lt Rt P ops Q base l I (a.put o.dst (.pointer (some ⟨b,0,none⟩))) w'):wpG ow Lt Rt P ops Q base (.m i t z::l) I a w:=by
 unfold wpG
 simp only[St.i,ho,hw,if_true]
 exact h
theorem zU (ho:ops[i]?=some o) (hw:Region.wanted o (yielded ops a.tmps)=true) {k:Kd} (h:∀w',Gr w w'→∀K:Act→World→Prop,(∀a' w'',Ll Lt Rt k w' w''→wpG ow Lt Rt P ops Q base l ((w'.heap.size,w''.heap.size)::I) a' w''→K a' w'')→ow o a w' K):wpG ow Lt Rt P ops Q base (.x k i::l) I a w:=by
 unfold wpG
 simp only[St.i,ho,hw,if_true]
 exact fun w' hg=>h w' hg _ (fun _ _ h1 h2=>⟨h1,h2⟩)
end
theorem yK {x:St} {o:Oper} {l:List St} {I:List (Nat×Nat)} {a:Act} {w:World} (ho:ops[x.i]?=some o) (hw:Region.wanted o (yielded ops a.tmps)=false) (h:wpG ow Lt Rt P ops Q base l I (a.put o.dst undef) w):wpG ow Lt Rt P ops Q base (x::l) I a w:=by
 unfold wpG
 simp only[ho,hw]
 exact h
theorem wGp {i:Nat} {o:Oper} {l:List St} {I:List (Nat×Nat)} {a:Act} {w:World} (ho:ops[i]?=some o) (hw:Region.wanted o (yielded ops a.tmps)=false) (h:wpG ow Lt Rt P ops Q base l I (a.put o.dst undef) w):wpG ow Lt Rt P ops Q base (.p i::l) I a w:=yK (x:= .p i) ho hw h
theorem wGq {i:Nat} {o:Oper} {l:List St} {I:List (Nat×Nat)} {a:Act} {w:World} (ho:ops[i]?=some o) (hw:Region.wanted o (yielded ops a.tmps)=false) (h:wpG ow Lt Rt P ops Q base l I (a.put o.dst undef) w):wpG ow Lt Rt P ops Q base (.q i::l) I a w:=yK (x:= .q i) ho hw h
theorem wGc {i:Nat} {o:Oper} {l:List St} {I:List (Nat×Nat)} {a:Act} {w:World} (ho:ops[i]?=some o) (hw:Region.wanted o (yielded ops a.tmps)=false) (h:wpG ow Lt Rt P ops Q base l I (a.put o.dst undef) w):wpG ow Lt Rt P ops Q base (.c i::l) I a w:=yK (x:= .c i) ho hw h
theorem wNi {I:List (Nat×Nat)} {a:Act} {w:World} (h:∀w',Gr w w'→Q a w'):wpG ow Lt Rt P ops Q base [] I a w:=by unfold wpG;exact h
variable [OwL P ow] [LtO Lt]
theorem yQ {o:Oper} {a:Act} {w:World} {v:Value} {K:Act→World→Prop} (h:pLa P o a w v) (hK:K (a.put o.dst v) w):ow o a w K:=by
 unfold pLa at h
 cases hr:(execOp a.eval o).run P w with
 |ok n w'=>
  rw[hr] at h
  cases n<;>simp only at h
  case value=>obtain⟨rfl,rfl⟩:=h;exact OwL.value hr hK
  case skip=>obtain⟨rfl,rfl⟩:=h;exact OwL.skip hr hK
 |halt x w'=>rw[hr] at h;exact h.elim
theorem wLa:∀(l:List St) (I:List (Nat×Nat)) (a:Act) (w w':World),wpG ow Lt Rt P ops Q base l I a w→Gr w w'→wpG ow Lt Rt P ops Q base l I a w'
 | [],I,a,w,w',h,hg=>by unfold wpG at *;exact fun v hv=>h v (hg.trans hv)
 |x::l,I,a,w,w',h,hg=>by
  unfold wpG at *
  split
  · rename_i ho;simp only[ho] at h
  · rename_i o ho
    simp only[ho] at h
    split
    · rename_i hw
      simp only[hw,if_true] at h
      cases x with
      |p i=>exact⟨h.choose,h.choose_spec.1,wLa l I _ w w' h.choose_spec.2 hg⟩
      |q i=>exact⟨h.choose,fun v hv=>h.choose_spec.1 v (LtO.trans (LtO.gr hg) hv),wLa l I _ w w' h.choose_spec.2 hg⟩
      |m i t z=>exact fun v b hv=>h v b (hg.trans hv)
      |x k i=>exact fun v hv=>h v (hg.trans hv)
    · rename_i hw
      simp only[hw] at h
      exact wLa l I _ w w' h hg
def Same (ops:Array Oper) (o:Oper) (a a':Act):Prop:=Region.wanted o (yielded ops a'.tmps)=Region.wanted o (yielded ops a.tmps)∧execOp a'.eval o=execOp a.eval o
theorem Same.put {o x:Oper} {a0 a:Act} (h:Same ops o a0 a) (h1:∀d,x.dst=some d→d∉o.looksAt ops) (hs:∀cs b,o.op≠ .select cs b) (v:Value) (ds:List Deferred):Same ops o a0 (({a with defers:=ds}:Act).put x.dst v):=
 ⟨(wanted_put o _ x.dst v h1).trans h.1,(execOp_put o hs _ x.dst v h1).trans h.2⟩
theorem Same.put' {o x:Oper} {a0 a:Act} (h:Same ops o a0 a) (h1:∀d,x.dst=some d→d∉o.looksAt ops) (hs:∀cs b,o.op≠ .select cs b) (v:Value):Same ops o a0 (a.put x.dst v):=h.put h1 hs v a.defers
theorem oH {o:Oper} {s:St} {l2:List St} (u:Value) (Inv:List (Nat×Nat)→World→Prop) (hs:∀cs b,o.op≠ .select cs b)
 (k1:∀I w w',Inv I w→Gr w w'→Inv I w') (bt:Bool) (k2:bt=true→∀k,k≠ .s→∀I w w',Inv I w→Ll Lt Rt k w w'→Inv ((w.heap.size,w'.heap.size)::I) w')
 (a0:Act) (hh:∀I a w,Same ops o a0 a→Inv I w→wpG ow Lt Rt P ops Q base (s::l2) I a w→wpG ow Lt Rt P ops Q base l2 I (a.put o.dst u) w):
 ∀(l1:List St) (I:List (Nat×Nat)) (a:Act) (w:World),(∀x∈l1,∀ox,ops[x.i]?=some ox→ox.apart ops o=true∧∀cs b,ox.op≠ .select cs b)→(∀x∈l1,∀k i,x= .x k i→bt=true∧k≠ .s)→
  Same ops o a0 a→Inv I w→wpG ow Lt Rt P ops Q base (l1++s::l2) I a w→wpG ow Lt Rt P ops Q base (l1++l2) I (a.put o.dst u) w
 | [],I,a,w,_,_,hsm,hi,h=>hh I a w hsm hi h
 |x::l1,I,a,w,hap,hns,hsm,hi,h=>by
  have IH:=fun I a w h1=>oH u Inv hs k1 bt k2 a0 hh l1 I a w h1 (fun y hy=>hns y (List.mem_cons_of_mem _ hy))
  have hap':=fun y hy=>hap y (List.mem_cons_of_mem _ hy)
  rw[List.cons_append] at h ⊢
  unfold wpG at h ⊢
  split
  · rename_i ho;simp only[ho] at h
  · rename_i ox ho
    simp only[ho] at h
    obtain⟨hapx,hsx⟩:=hap x List.mem_cons_self ox ho
    obtain⟨e1,e2,e3⟩:=Oper.apart_spec hapx
    have e4:∀d,o.dst=some d→ox.dst≠some d:=fun d hd hx=>e2 d hx hd
    rw[wanted_put ox a o.dst u e3]
    split
    · rename_i hw
      simp only[hw,if_true] at h
      cases x with
      |p i=>
       obtain⟨v,hv,h⟩:=h
       refine⟨v,fun w'=>pLo (execOp_put ox hsx a o.dst u e3) (hv w'),?_⟩
       rw[←Act.put_comm a v u e2]
       exact IH I _ w hap' (hsm.put' e1 hs v) hi h
      |q i=>
       obtain⟨v,hv,h⟩:=h
       refine⟨v,fun w' hg=>pLo (execOp_put ox hsx a o.dst u e3) (hv w' hg),?_⟩
       rw[←Act.put_comm a v u e2]
       exact IH I _ w hap' (hsm.put' e1 hs v) hi h
      |m i t z=>
       intro w' b hg hb hblk hI
       have :=h w' b hg hb hblk hI
       rw[←Act.put_comm a _ u e2]
       exact IH I _ w' hap' (hsm.put' e1 hs _) (k1 I w w' hi hg) this
      |x k i=>
       obtain⟨hbt,hk⟩:=hns _ List.mem_cons_self k i rfl
       intro w' hg
       refine OwL.mono P ?_ (OwL.Li P (ops:=ops) (x:=o) (u:=u) e3 e4 hsx (h w' hg))
       rintro a' w'' ⟨ds,v,rfl,hgg,h⟩
       exact⟨hgg,IH _ _ w'' hap' (hsm.put e1 hs v ds) (k2 hbt k hk I w' w'' (k1 I w w' hi hg) hgg) h⟩
    · rename_i hw
      simp only[hw] at h
      rw[←Act.put_comm a undef u e2]
      exact IH I _ w hap' (hsm.put' e1 hs undef) hi h
theorem yj {o:Oper} {i:Nat} {l2:List St} (hi:ops[i]?=some o) (hs:∀cs b,o.op≠ .select cs b) (every:Bool):
 ∀(l1:List St) (I:List (Nat×Nat)) (a:Act) (w:World),(∀x∈l1,∀ox,ops[x.i]?=some ox→ox.apart ops o=true)→(∀x∈l1,x= .p x.i∨x= .q x.i)→Region.wanted o (yielded ops a.tmps)=true→
  wpG ow Lt Rt P ops Q base (l1++(if every then St.p i else St.q i)::l2) I a w→∃v,(∀w',(every=false→Lt w w')→pLa P o a w' v)
 | [],I,a,w,_,_,hw,h=>by
  rw[List.nil_append] at h
  unfold wpG at h
  have hx:(if every then St.p i else St.q i).i=i:=by cases every<;>rfl
  simp only[hx,hi,hw,if_true] at h
  cases every with
  |true=>obtain⟨v,hv,_⟩:=h;exact⟨v,fun w' _=>hv w'⟩
  |false=>obtain⟨v,hv,_⟩:=h;exact⟨v,fun w' hg=>hv w' (hg rfl)⟩
 |x::l1,I,a,w,hap,hpq,hw,h=>by
  have IH:=yj (l2:=l2) hi hs every l1
  have hap':=fun y hy=>hap y (List.mem_cons_of_mem _ hy)
  have hpq':=fun y hy=>hpq y (List.mem_cons_of_mem _ hy)
  rw[List.cons_append] at h
  unfold wpG at h
  split at h
  · exact h.elim
  · rename_i ox ho
    obtain⟨e1,e2,e3⟩:=Oper.apart_spec (hap x List.mem_cons_self ox ho)
    have go:∀v,wpG ow Lt Rt P ops Q base (l1++(if every then St.p i else St.q i)::l2) I (a.put ox.dst v) w→∃v,(∀w',(every=false→Lt w w')→pLa P o a w' v):=fun v h=>by
     obtain⟨u,hu⟩:=IH I _ w hap' hpq' ((wanted_put o a ox.dst v e1).trans hw) h
     exact⟨u,fun w' hg=>pLo (execOp_put o hs a ox.dst v e1).symm (hu w' hg)⟩
    split at h
    · rcases hpq x List.mem_cons_self with hx|hx<;>rw[hx] at h<;>obtain⟨v,_,h⟩:=h<;>exact go v h
    · exact go undef h
theorem Om {o:Oper} {k:Kd} {i:Nat} {l2:List St} (hi:ops[i]?=some o) (hs:∀cs b,o.op≠ .select cs b):
 ∀(l1:List St) (I:List (Nat×Nat)) (a:Act) (w:World),(∀x∈l1,∀ox,ops[x.i]?=some ox→ox.apart ops o=true∧∀cs b,ox.op≠ .select cs b)→(∀x∈l1,x= .p x.i∨(k= .c∧x= .q x.i))→Region.wanted o (yielded ops a.tmps)=true→
  wpG ow Lt Rt P ops Q base (l1++ .x k i::l2) I a w→ow o a w (fun a' w'=>Ll Lt Rt k w w'∧wpG ow Lt Rt P ops Q base (l1++l2) ((w.heap.size,w'.heap.size)::I) a' w')
 | [],I,a,w,_,_,hw,h=>by
  rw[List.nil_append] at h
  unfold wpG at h
  simp only[St.i,hi,hw,if_true] at h
  exact h w (Gr.refl w)
 |x::l1,I,a,w,hap,hpq,hw,h=>by
  have IH:=Om (k:=k) (l2:=l2) hi hs l1
  have hap':=fun y hy=>hap y (List.mem_cons_of_mem _ hy)
  have hpq':=fun y hy=>hpq y (List.mem_cons_of_mem _ hy)
  rw[List.cons_append] at h ⊢
  unfold wpG at h
  split at h
  · exact h.elim
  · rename_i ox ho
    obtain⟨hapx,hsx⟩:=hap x List.mem_cons_self ox ho
    obtain⟨e1,e2,e3⟩:=Oper.apart_spec hapx
    split at h
    · rename_i hwx
      rcases hpq x List.mem_cons_self with hx| ⟨hk,hx⟩<;>rw[hx] at h<;>obtain⟨v,hv,h⟩:=h
      all_goals
       refine OwL.mono P ?_ (OwL.dK P (ops:=ops) (x:=ox) e1 e2 hs (IH I _ w hap' hpq' ((wanted_put o a ox.dst v e1).trans hw) h))
       rintro a' w' ⟨ds,r,rfl,hg,h⟩
       refine⟨hg,?_⟩
       have hww:=(wanted_put ox ({a with defers:=ds}:Act) o.dst r e3).trans hwx
       rw[hx]
      · exact SI (i:=x.i) ho hww v (fun w'=>pLo (execOp_put ox hsx ({a with defers:=ds}:Act) o.dst r e3) (hv w')) h
      · rw[hk] at hg
        exact SH (i:=x.i) ho hww v (fun w' hg'=>pLo (execOp_put ox hsx ({a with defers:=ds}:Act) o.dst r e3) (hv w' (LtO.trans (Lt:=Lt) hg hg'))) h
    · rename_i hwx
      refine OwL.mono P ?_ (OwL.dK P (ops:=ops) (x:=ox) e1 e2 hs (IH I _ w hap' hpq' ((wanted_put o a ox.dst undef e1).trans hw) h))
      rintro a' w' ⟨ds,r,rfl,hg,h⟩
      refine⟨hg,?_⟩
      unfold wpG
      simp only[ho,(wanted_put ox ({a with defers:=ds}:Act) o.dst r e3),hwx]
      exact h
def yD (M:List Nat) (y x:Nat):Bool:=(M.getD y 0).testBit x
def pQ (md:Region.Mode) (o:Oper) (x:Nat):Bool:=o.after.any fun e=>Region.binds md e && e.on==x
def oG (md:Region.Mode) (ops:Array Oper) (M:List Nat):Bool:=
 (List.range ops.size).all fun y=>(List.range ops.size).all fun x=> !yD M y x || (match ops[y]? with|none=>false|some o=>o.after.any fun e=>Region.binds md e && (decide (e.on<y) && (e.on==x || yD M e.on x)))
def St.fine:St→St→Bool
 | .x .s _,.m ..=>false
 |_,_=>true
def Ah (md:Region.Mode) (ops:Array Oper) (M:List Nat) (x y:St):Bool:=match ops[x.i]?,ops[y.i]? with
 |some ox,some oy=>(yD M y.i x.i || (St.may x y && ox.apart ops oy)) && (!pQ md ox y.i && (St.fine x y && !(y.i==x.i)))
 |_,_=>false
def Ae (md:Region.Mode) (ops:Array Oper) (x:St):Bool:=match ops[x.i]? with
 |some o=>o.after.all fun e=> !Region.binds md e || (decide (e.on<ops.size) && !(e.on==x.i))
 |none=>false
def zu (md:Region.Mode) (ops:Array Oper) (M:List Nat):List St→Bool
 | []=>true
 |x::l=>Ae md ops x && (l.all (Ah md ops M x) && zu md ops M l)
def tC (md:Region.Mode) (ops:Array Oper) (M:List Nat) (l:List St):Bool:=
 Region.noSelect ops && (oG md ops M && (zu md ops M l && (decide (l.length=ops.size) && (List.range ops.size).all fun i=>l.any fun x=>x.i==i)))
structure Good (md:Region.Mode) (ops:Array Oper) (M:List Nat) (l:List St) (listed:Array Bool):Prop where
 pw:List.Pairwise (fun x y=>Ah md ops M x y=true) l
 self:∀x∈l,Ae md ops x=true
 unl:∀i,(i<ops.size∧listed.getD i true=false)↔∃x∈l,x.i=i
 closed:∀j o,ops[j]?=some o→listed.getD j false=true→∀e∈o.after,Region.binds md e=true→listed.getD e.on false=true
 sz:listed.size=ops.size
theorem wS {M:List Nat}:∀{l:List St},zu md ops M l=true→List.Pairwise (fun x y=>Ah md ops M x y=true) l∧∀x∈l,Ae md ops x=true
 | [],_=>⟨List.Pairwise.nil,fun x hx=>by cases hx⟩
 |x::l,h=>by
  unfold zu at h
  rw[Bool.and_eq_true,Bool.and_eq_true] at h
  obtain⟨h1,h2⟩:=wS h.2.2
  refine⟨List.Pairwise.cons (fun y hy=>List.all_eq_true.1 h.2.1 y hy) h1,fun y hy=> ?_⟩
  rcases List.mem_cons.1 hy with rfl|hy
  · exact h.1
  · exact h2 y hy
theorem pBs {M:List Nat} {x y:St} (h:Ah md ops M x y=true):∃ox oy,ops[x.i]?=some ox∧ops[y.i]?=some oy∧(yD M y.i x.i=true∨(St.may x y=true∧ox.apart ops oy=true))∧(∀e∈ox.after,Region.binds md e=true→e.on≠y.i)∧St.fine x y=true∧y.i≠x.i:=by
 unfold Ah at h
 split at h
 · rename_i ox oy hx hy
   simp only[Bool.and_eq_true,Bool.or_eq_true,Bool.not_eq_true',beq_eq_false_iff_ne] at h
   refine⟨ox,oy,hx,hy,h.1,fun e he hb heq=> ?_,h.2.2.1,h.2.2.2⟩
   have h2:=h.2.1
   unfold pQ at h2
   rw[Array.any_eq_false'] at h2
   have :=h2 e he
   simp[hb,heq] at this
 · cases h
theorem JD {M:List Nat} (h:oG md ops M=true) {x y:Nat} (hx:x<ops.size) (hy:y<ops.size) (ha:yD M y x=true):∃o,ops[y]?=some o∧∃e∈o.after,Region.binds md e=true∧e.on<y∧(e.on=x∨yD M e.on x=true):=by
 unfold oG at h
 have h1:=List.all_eq_true.1 (List.all_eq_true.1 h y (List.mem_range.2 hy)) x (List.mem_range.2 hx)
 rw[ha] at h1
 simp only[Bool.not_true,Bool.false_or] at h1
 split at h1
 · cases h1
 · rename_i o ho
   rw[Array.any_eq_true'] at h1
   obtain⟨e,he,h2⟩:=h1
   simp only[Bool.and_eq_true,Bool.or_eq_true,decide_eq_true_eq,beq_iff_eq] at h2
   exact⟨o,ho,e,he,h2.1,h2.2.1,h2.2.2⟩
theorem LW {M:List Nat} {l:List St} {listed:Array Bool} (hm:oG md ops M=true) (hg:Good md ops M l listed) {x:Nat} (hx:x<ops.size):
 ∀(y:Nat),y<ops.size→(∀o,ops[y]?=some o→∀e∈o.after,Region.binds md e=true→listed.getD e.on false=true)→yD M y x=true→listed.getD x false=true:=by
 intro y
 induction y using Nat.strongRecOn with
 |ind y ih=>
  intro hy hr ha
  obtain⟨o,ho,e,he,hb,hlt,h⟩:=JD hm hx hy ha
  have hl:=hr o ho e he hb
  rcases h with rfl|h
  · exact hl
  · exact ih e.on hlt Xf (fun o' ho'=>hg.closed e.on o' ho' hl) h
theorem Good.take {M:List Nat} {l1 l2:List St} {s:St} {listed:Array Bool} (hg:Good md ops M (l1++s::l2) listed) (hr:s.i∈Region.ready md ops listed):Good md ops M (l1++l2) (listed.setIfInBounds s.i true):=by
 have hsub:(l1++l2).Sublist (l1++s::l2):=List.Sublist.append (List.Sublist.refl _) (List.sublist_cons_self s l2)
 have hpw:=List.pairwise_append.1 hg.pw
 have hne:∀x∈l1++l2,x.i≠s.i:=by
  intro x hx
  rcases List.mem_append.1 hx with hx|hx
  · obtain⟨_,_,_,_,_,_,_,h⟩:=pBs (hpw.2.2 x hx s List.mem_cons_self)
    exact fun e=>h e.symm
  · obtain⟨_,_,_,_,_,_,_,h⟩:=pBs ((List.pairwise_cons.1 hpw.2.1).1 x hx)
    exact h
 obtain⟨h0,o,ho,hall⟩:=mem_ready.1 hr
 refine⟨hg.pw.sublist hsub,fun x hx=>hg.self x (hsub.subset hx),fun i=> ?_,fun j oj hj hl e he hb=> ?_,by simp[hg.sz]⟩
 · by_cases hi:s.i=i
   · subst hi
     constructor
     · rintro⟨h1,h2⟩
       have :s.i<listed.size:=by rw[hg.sz];exact h1
       simp[this] at h2
     · rintro⟨x,hx,e⟩
       exact absurd e (hne x hx)
   · rw[getD_set_ne true hi,hg.unl i]
     constructor
     · rintro⟨x,hx,rfl⟩
       refine⟨x,?_,rfl⟩
       rcases List.mem_append.1 hx with hx|hx
       · exact List.mem_append_left _ hx
       · rcases List.mem_cons.1 hx with rfl|hx
         · exact absurd rfl hi
         · exact List.mem_append_right _ hx
     · rintro⟨x,hx,rfl⟩
       exact⟨x,hsub.subset hx,rfl⟩
 · by_cases hi:s.i=j
   · subst hi
     rw[ho] at hj
     cases hj
     exact getD_set_true (hall e he hb)
   · rw[getD_set_ne false hi] at hl
     exact getD_set_true (hg.closed j oj hj hl e he hb)
theorem Good.ahead {M:List Nat} {l1 l2:List St} {s:St} {listed:Array Bool} (hm:oG md ops M=true) (hg:Good md ops M (l1++s::l2) listed) (hr:s.i∈Region.ready md ops listed) {o:Oper} (ho:ops[s.i]?=some o):
 ∀x∈l1,St.may x s=true∧∀ox,ops[x.i]?=some ox→ox.apart ops o=true:=by
 intro x hx
 obtain⟨ox,oy,h1,h2,h3,_,_,_⟩:=pBs ((List.pairwise_append.1 hg.pw).2.2 x hx s List.mem_cons_self)
 rw[ho] at h2
 cases h2
 obtain⟨h0,o',ho',hall⟩:=mem_ready.1 hr
 rcases h3 with h3|h3
 · exfalso
   have hxs:x.i<ops.size:=(Array.getElem?_eq_some_iff.1 h1).1
   have hss:s.i<ops.size:=(Array.getElem?_eq_some_iff.1 ho).1
   have :=LW hm hg hxs s.i hss (fun o2 ho2=>by rw[ho'] at ho2;cases ho2;exact hall) h3
   have h5:=((hg.unl x.i).2 ⟨x,List.mem_append_left _ hx,rfl⟩).2
   have :listed.getD x.i true=true:=by
    have hlt:x.i<listed.size:=by rw[hg.sz];exact hxs
    simp[hlt] at this ⊢
    exact this
   rw[this] at h5
   cases h5
 · exact⟨h3.1,fun ox' h=>by rw[h1] at h;cases h;exact h3.2⟩
theorem Good.head {M:List Nat} {l:List St} {x:St} {listed:Array Bool} (hg:Good md ops M (x::l) listed):x.i∈Region.ready md ops listed:=by
 have h0:=(hg.unl x.i).2 ⟨x,List.mem_cons_self,rfl⟩
 have hs:=hg.self x List.mem_cons_self
 unfold Ae at hs
 split at hs
 · rename_i o ho
   refine mem_ready.2 ⟨h0.2,o,ho,fun e he hb=> ?_⟩
   rw[Array.all_eq_true_iff_forall_mem] at hs
   have h1:=hs e he
   simp only[hb,Bool.not_true,Bool.false_or,Bool.and_eq_true,decide_eq_true_eq,Bool.not_eq_true',beq_eq_false_iff_ne] at h1
   have hlt:e.on<listed.size:=by rw[hg.sz];exact h1.1
   by_cases hl:listed.getD e.on true=false
   · exfalso
     obtain⟨y,hy,hyi⟩:=(hg.unl e.on).1 ⟨h1.1,hl⟩
     rcases List.mem_cons.1 hy with rfl|hy
     · exact h1.2 hyi.symm
     · obtain⟨ox,oy,h2,_,_,h4,_,_⟩:=pBs ((List.pairwise_cons.1 hg.pw).1 y hy)
       rw[ho] at h2
       cases h2
       exact h4 e he hb hyi.symm
   · simp[hlt] at hl ⊢
     exact hl
 · cases hs
def rZ (P:Program) (tt:TypeId→Prop) (ops:Array Oper):List St→Prop
 | []=>True
 | .m i t z::l=>((∀o,ops[i]?=some o→vI P o t z)∧tt t)∧rZ P tt ops l
 |_::l=>rZ P tt ops l
theorem mkM:∀{l:List St},rZ P tt ops l→∀{i t z},St.m i t z∈l→(∀o,ops[i]?=some o→vI P o t z)∧tt t
 | [],_,_,_,_,h=>by cases h
 |x::l,hm,i,t,z,h=>by
  rcases List.mem_cons.1 h with e|hh
  · subst e;exact hm.1
  · cases x with
    |m i' t' z'=>exact mkM (l:=l) hm.2 hh
    |p i'=>exact mkM (l:=l) hm hh
    |q i'=>exact mkM (l:=l) hm hh
    |x k i'=>exact mkM (l:=l) hm hh
theorem Pq {x:St} {i:Nat} (h:St.may x (.p i)=true∨St.may x (.q i)=true):x= .p x.i∨x= .q x.i:=by
 rcases x with _|_|_| ⟨_|_|_,_⟩<;>simp[St.may,St.i] at h ⊢
theorem SG {x:St} {k:Kd} {i:Nat} (h:St.may x (.x k i)=true):x= .p x.i∨(k= .c∧x= .q x.i):=by
 rcases x with _|_|_| ⟨_|_|_,_⟩<;>cases k<;>simp[St.may,St.i] at h ⊢
theorem sJ {M:List Nat} (X:Nat→Array Bool→Act→World→Prop) (hX0:∀listed a w,Region.ready md ops listed=[]→Q a w→X 0 listed a w)
 (hX:∀n listed a w,Region.ready md ops listed≠[]→(∀i∈Region.ready md ops listed,∀o,ops[i]?=some o→if Region.wanted o (yielded ops a.tmps)=true then ow o a w (X n (listed.setIfInBounds i true)) else X n (listed.setIfInBounds i true) (a.put o.dst undef) w)→X (n+1) listed a w)
 (hlb:∀w w' b cs t,tt t→Lt w w'→base≤b→Blk w b t cs→Blk w' b t cs) (hpb:∀w w',Rt w w'→w.heap.size≤w'.heap.size) (hpt:∀w w' b cs t,tt t→Rt w w'→Blk w b t cs→Blk w' b t cs) (hm:oG md ops M=true) (hns:Region.noSelect ops=true):
 ∀(n:Nat) (l:List St) (I:List (Nat×Nat)) (listed:Array Bool) (a:Act) (w:World),l.length=n→(∀i t z,St.m i t z∈l→(∀o,ops[i]?=some o→vI P o t z)∧tt t)→Good md ops M l listed→
  ((∀i t z,St.m i t z∉l)∨(base≤w.heap.size∧∀p∈I,p.2≤w.heap.size))→wpG ow Lt Rt P ops Q base l I a w→X n listed a w
 |0,l,I,listed,a,w,hl,_,hg,_,h=>by
  have :l=[]:=List.eq_nil_of_length_eq_zero hl
  subst this
  unfold wpG at h
  refine hX0 _ _ _ ?_ (h w (Gr.refl w))
  rw[List.eq_nil_iff_forall_not_mem]
  intro j hj
  obtain⟨h0,o,ho,_⟩:=mem_ready.1 hj
  obtain⟨x,hx,_⟩:=(hg.unl j).1 ⟨(Array.getElem?_eq_some_iff.1 ho).1,h0⟩
  cases hx
 |n+1,l,I,listed,a,w,hl,hmk,hg,hI,h=>by
  refine hX _ _ _ _ (fun h0=> ?_) (fun i hi o ho=> ?_)
  · obtain⟨x,l',rfl⟩:∃x l',l=x::l':=by cases l with|nil=>simp at hl|cons x l'=>exact⟨x,l',rfl⟩
    have :=hg.head
    rw[h0] at this
    cases this
  · obtain⟨hu,_⟩:=mem_ready.1 hi
    have hlt:=(Array.getElem?_eq_some_iff.1 ho).1
    obtain⟨s,hs,rfl⟩:=(hg.unl i).1 ⟨hlt,hu⟩
    obtain⟨l1,l2,rfl⟩:=List.append_of_mem hs
    have hah:=hg.ahead hm hi ho
    have hsel:=Region.noSelect_spec hns
    have hso:∀cs b,o.op≠ .select cs b:=fun cs b=>hsel _ o cs b ho
    have hap:∀x∈l1,∀ox,ops[x.i]?=some ox→ox.apart ops o=true:=fun x hx ox hox=>(hah x hx).2 ox hox
    have hap2:∀x∈l1,∀ox,ops[x.i]?=some ox→ox.apart ops o=true∧∀cs b,ox.op≠ .select cs b:=fun x hx ox hox=>⟨(hah x hx).2 ox hox,fun cs b=>hsel _ ox cs b hox⟩
    have hlen:(l1++l2).length=n:=by simp at hl ⊢;omega
    have hsub:∀y,y∈l1++l2→y∈l1++s::l2:=fun y hy=>by
     rcases List.mem_append.1 hy with hy|hy
     · exact List.mem_append_left _ hy
     · exact List.mem_append_right _ (List.mem_cons_of_mem _ hy)
    have hmk':∀i t z,St.m i t z∈l1++l2→(∀o,ops[i]?=some o→vI P o t z)∧tt t:=fun i t z hy=>hmk i t z (hsub _ hy)
    have hnm:∀{w':World},w.heap.size≤w'.heap.size→((∀i t z,St.m i t z∉l1++l2)∨(base≤w'.heap.size∧∀p∈I,p.2≤w'.heap.size)):=fun hle=>hI.imp (fun h i t z hy=>h i t z (hsub _ hy)) (fun h=>⟨Xf,fun p hp=>Nat.le_trans (h.2 p hp) hle⟩)
    have hgt:=hg.take hi
    have IH:=fun I' a' w' hI' h'=>sJ X hX0 hX hlb hpb hpt hm hns n (l1++l2) I' (listed.setIfInBounds s.i true) a' w' hlen hmk' hgt hI' h'
    by_cases hw:Region.wanted o (yielded ops a.tmps)=true
    · rw[if_pos hw]
      cases s with
      |p i=>
       have hpq:∀x∈l1,x= .p x.i∨x= .q x.i:=fun x hx=>Pq (i:=i) (.inl (hah x hx).1)
       obtain⟨v,hv⟩:=yj (i:=i) ho hso true l1 I a w hap hpq hw h
       refine yQ (hv w (fun h=>by cases h)) (IH I _ w (hnm (Nat.le_refl _)) ?_)
       refine oH v (fun _ _=>True) hso (fun _ _ _ _ _=>trivial) true (fun _ _ _ _ _ _ _ _=>trivial) a (fun I' a' w' hsm _ h'=> ?_) l1 I a w hap2 (fun x hx k i e=>by rcases hpq x hx with h|h<;>rw[h] at e<;>cases e) ⟨rfl,rfl⟩ trivial h
       unfold wpG at h'
       have ho':ops[i]?=some o:=ho
       simp only[St.i,ho',hsm.1.trans hw,if_true] at h'
       obtain⟨v',hv',h'⟩:=h'
       have e:=xI hsm.2 (hv w' (fun h=>by cases h)) (hv' w')
       rw[←e]
       exact h'
      |q i=>
       have hpq:∀x∈l1,x= .p x.i∨x= .q x.i:=fun x hx=>Pq (i:=i) (.inr (hah x hx).1)
       obtain⟨v,hv⟩:=yj (i:=i) ho hso false l1 I a w hap hpq hw h
       refine yQ (hv w (fun _=>LtO.refl w)) (IH I _ w (hnm (Nat.le_refl _)) ?_)
       refine oH v (fun _ w'=>Lt w w') hso (fun _ _ _ h k=>LtO.trans h (LtO.gr k)) false (fun e=>by cases e) a (fun I' a' w' hsm hinv h'=> ?_) l1 I a w hap2 (fun x hx k i e=>by rcases hpq x hx with h|h<;>rw[h] at e<;>cases e) ⟨rfl,rfl⟩ (LtO.refl w) h
       unfold wpG at h'
       have ho':ops[i]?=some o:=ho
       simp only[St.i,ho',hsm.1.trans hw,if_true] at h'
       obtain⟨v',hv',h'⟩:=h'
       have e:=xI hsm.2 (hv w' (fun _=>hinv)) (hv' w' (LtO.refl w'))
       rw[←e]
       exact h'
      |m i t z=>
       obtain⟨hmm0,htt⟩:=hmk i t z (List.mem_append_right _ List.mem_cons_self)
       obtain⟨hb,hI2⟩:base≤w.heap.size∧∀p∈I,p.2≤w.heap.size:=hI.resolve_left (fun h=>h i t z (List.mem_append_right _ List.mem_cons_self))
       refine OwL.value (hmm0 o ho _ w) (IH I _ _ (hnm (by simp)) ?_)
       refine oH _ (fun I' w'=>Blk w' w.heap.size t z.toList∧∀p∈I',w.heap.size<p.1∨p.2≤w.heap.size) hso (fun _ _ _ h k=>⟨k.blk h.1,h.2⟩) true (fun _ k hk I' w1 w2 h q=>⟨?_,fun p hp=> ?_⟩) a (fun I' a' w' hsm hinv h'=> ?_) l1 I a _ hap2 (fun x hx k i e=>⟨rfl,fun hk=> ?_⟩) ⟨rfl,rfl⟩ ⟨Blk.new w t z,fun p hp=> .inr (hI2 p hp)⟩ (wLa _ I a w _ h (Gr.alloc w _))
       · cases k with
         |c=>exact hlb _ _ _ _ _ htt q hb h.1
         |t=>exact hpt _ _ _ _ _ htt q h.1
         |s=>exact absurd rfl hk
       · rcases List.mem_cons.1 hp with rfl|hp
         · exact .inl h.1.lt
         · exact h.2 p hp
       · unfold wpG at h'
         have ho':ops[i]?=some o:=ho
         simp only[St.i,ho',hsm.1.trans hw,if_true] at h'
         exact h' w' w.heap.size (Gr.refl w') hb hinv.1 hinv.2
       · have :=(hah x hx).1
         rw[e,hk] at this
         cases this
      |x k i=>
       refine OwL.mono P ?_ (Om (k:=k) (i:=i) ho hso l1 I a w hap2 (fun x hx=>SG (hah x hx).1) hw h)
       rintro a' w' ⟨hgr,h'⟩
       refine IH _ a' w' ?_ h'
       have hsz:k≠ .s→w.heap.size≤w'.heap.size:=fun hk=>by
        cases k with
        |c=>exact LtO.size (Lt:=Lt) hgr
        |t=>exact hpb _ _ hgr
        |s=>exact absurd rfl hk
       by_cases hk:k= .s
       · subst hk
         refine .inl fun j t z hy=> ?_
         rcases List.mem_append.1 hy with hy|hy
         · rcases SG (hah _ hy).1 with h|h
           · cases h
           · cases h.2
         · obtain⟨_,_,_,_,_,_,hf,_⟩:=pBs ((List.pairwise_cons.1 (List.pairwise_append.1 hg.pw).2.1).1 _ hy)
           simp[St.fine] at hf
       · rcases hnm (hsz hk) with h1|h1
         · exact .inl h1
         · exact .inr ⟨h1.1,fun p hp=>by
            rcases List.mem_cons.1 hp with rfl|hp
            · exact Nat.le_refl _
            · exact h1.2 p hp⟩
    · rw[if_neg hw]
      have hw':Region.wanted o (yielded ops a.tmps)=false:=by simpa using hw
      have hq:∀x∈l1,∀k i,x= .x k i→true=true∧k≠ .s:=fun x hx k i e=>⟨rfl,fun hk=>by
       have :=(hah x hx).1
       rw[e,hk] at this
       cases this⟩
      refine IH I _ w (hnm (Nat.le_refl _)) ?_
      refine oH undef (fun _ _=>True) hso (fun _ _ _ _ _=>trivial) true (fun _ _ _ _ _ _ _ _=>trivial) a (fun I' a' w' hsm _ h'=> ?_) l1 I a w hap2 hq ⟨rfl,rfl⟩ trivial h
      unfold wpG at h'
      simp only[ho,hsm.1.trans hw',Bool.false_eq_true,if_false] at h'
      exact h'
theorem CU {M:List Nat} {l:List St} (hB:tC md ops M l=true):Region.noSelect ops=true∧oG md ops M=true∧l.length=ops.size∧Good md ops M l (Array.replicate ops.size false):=by
 unfold tC at hB
 rw[Bool.and_eq_true,Bool.and_eq_true,Bool.and_eq_true,Bool.and_eq_true] at hB
 obtain⟨hns,hm,hp,hlen,hall⟩:=hB
 obtain⟨hpw,hself⟩:=wS hp
 refine⟨hns,hm,of_decide_eq_true hlen,hpw,hself,fun i=>⟨fun hi=> ?_,fun⟨x,hx,e⟩=> ?_⟩,fun j o hj hl=> ?_,by simp⟩
 · have :=List.all_eq_true.1 hall i (List.mem_range.2 hi.1)
   rw[List.any_eq_true] at this
   obtain⟨x,hx,he⟩:=this
   exact⟨x,hx,by simpa using he⟩
 · have :=hself x hx
   unfold Ae at this
   split at this
   · rename_i o ho
     have :=(Array.getElem?_eq_some_iff.1 ho).1
     rw[e] at this
     exact⟨this,by simp[this]⟩
   · cases this
 · exfalso
   rcases Nat.lt_or_ge j ops.size with h'|h'<;>simp[h'] at hl
end
theorem jI {P:Program} {o:Oper} {a:Act} {w:World} {K K':Act→World→Prop} {Q':Exit→Act→World→Prop} (h:∀a w,K a w→K' a w) (hh:o.wp P a w K dF):o.wp P a w K' Q':=by
 unfold Oper.wp at *
 generalize (execOp a.eval o).run P w=r at *
 cases r with
 |ok n w'=>
  cases n<;>simp only[Oper.upon] at hh ⊢
  case value=>exact h _ _ hh
  case skip=>exact h _ _ hh
  case defer=>exact h _ _ hh
  case enter f args=>exact Calls.mono hh (fun e w'' he=>by
   cases e with
   |returned v=>exact h _ _ he
   |panicked c=>exact he.elim
   |outgrown=>obtain⟨_,_,he⟩:=he;exact he.elim)
  case row=>exact Rows.mono hh (fun _ _ he=>h _ _ he)
 |halt x w'=>cases x<;>simp only[Oper.upon] at hh ⊢;exact hh.elim
theorem TU {P:Program} {ops:Array Oper} {o x:Oper} {a:Act} {w:World} {K:Act→World→Prop} {u:Value} (h1:∀d,x.dst=some d→d∉o.looksAt ops) (h2:∀d,x.dst=some d→o.dst≠some d) (hs:∀cs b,o.op≠ .select cs b) (h:o.wp P a w K dF):
 o.wp P (a.put x.dst u) w (fun a' w'=>∃ds v,a'=(({a with defers:=ds}:Act).put o.dst v).put x.dst u∧K (({a with defers:=ds}:Act).put o.dst v) w') dF:=by
 unfold Oper.wp at *
 rw[execOp_put o hs a x.dst u h1]
 generalize (execOp a.eval o).run P w=r at *
 cases r with
 |ok n w'=>
  cases n<;>simp only[Oper.upon] at h ⊢
  case value v=>exact⟨a.defers,v,(Act.put_comm a u v h2).symm▸rfl,h⟩
  case skip=>exact⟨a.defers,undef,(Act.put_comm a u undef h2).symm▸rfl,h⟩
  case defer d=>
   refine⟨d::a.defers,undef,?_,h⟩
   rw[Act.put_defers]
   exact Act.put_comm _ u undef h2
  case enter f args=>exact Calls.mono h (fun e w'' he=>by
   cases e with
   |returned v=>exact⟨a.defers,v,(Act.put_comm a u v h2).symm▸rfl,he⟩
   |panicked c=>exact he
   |outgrown=>obtain⟨_,_,he⟩:=he;exact he.elim)
  case row=>exact Rows.mono h (fun v _ he=>⟨a.defers,v,(Act.put_comm a u v h2).symm▸rfl,he⟩)
 |halt x w'=>cases x<;>simp only[Oper.upon] at h ⊢;exact h
theorem KD {P:Program} {ops:Array Oper} {o x:Oper} {a:Act} {w:World} {K:Act→World→Prop} {u:Value} (h1:∀d,x.dst=some d→d∉o.looksAt ops) (h2:∀d,x.dst=some d→o.dst≠some d) (hs:∀cs b,o.op≠ .select cs b) (h:o.wp P (a.put x.dst u) w K dF):
 o.wp P a w (fun a' w'=>∃ds v,a'=({a with defers:=ds}:Act).put o.dst v∧K (a'.put x.dst u) w') dF:=by
 unfold Oper.wp at *
 rw[execOp_put o hs a x.dst u h1] at h
 generalize (execOp a.eval o).run P w=r at *
 cases r with
 |ok n w'=>
  cases n<;>simp only[Oper.upon] at h ⊢
  case value v=>exact⟨a.defers,v,rfl,by rw[←Act.put_comm a u v h2];exact h⟩
  case skip=>exact⟨a.defers,undef,rfl,by rw[←Act.put_comm a u undef h2];exact h⟩
  case defer d=>exact⟨d::a.defers,undef,rfl,by rw[←Act.put_comm _ u undef h2,←Act.put_defers];exact h⟩
  case enter f args=>exact Calls.mono h (fun e w'' he=>by
   cases e with
   |returned v=>exact⟨a.defers,v,rfl,by rw[←Act.put_comm a u v h2];exact he⟩
   |panicked c=>exact he
   |outgrown=>obtain⟨_,_,he⟩:=he;exact he.elim)
  case row=>exact Rows.mono h (fun v _ he=>⟨a.defers,v,rfl,by rw[←Act.put_comm a u v h2];exact he⟩)
 |halt x w'=>cases x<;>simp only[Oper.upon] at h ⊢;exact h
def owP (P:Program) (o:Oper) (a:Act) (w:World) (K:Act→World→Prop):Prop:=o.wp P a w K dF
instance {P:Program}:OwL P (owP P) where
 mono:=jI
 value h hK:=by unfold owP Oper.wp;rw[h];exact hK
 skip h hK:=by unfold owP Oper.wp;rw[h];exact hK
 Li:=TU
 dK:=KD
theorem QL {P:Program} {o:Oper} {a:Act} {w:World} {v:Value} {K:Act→World→Prop} {Q':Exit→Act→World→Prop} (h:pLa P o a w v) (hK:K (a.put o.dst v) w):o.wp P a w K Q':=jI (fun _ _ h=>h) (yQ (ow:=owP P) h hK)
section
variable {P:Program} {Lt Rt:World→World→Prop} [LtO Lt] {tt:TypeId→Prop} {ops:Array Oper} {id:Nat} {Q':Exit→Act→World→Prop} {a:Act} {w:World}
theorem qo (hlb:∀v w' b cs t,tt t→Lt v w'→w.heap.size≤b→Blk v b t cs→Blk w' b t cs) (hpb:∀w w',Rt w w'→w.heap.size≤w'.heap.size) (hpt:∀w w' b cs t,tt t→Rt w w'→Blk w b t cs→Blk w' b t cs) (hf:P.follows .mixedOrders=true) (M:List Nat) (l:List St) (hB:tC .any ops M l=true) (hmk:rZ P tt ops l)
 (h:wpG (owP P) Lt Rt P ops (fun a' w'=>Q' .normal a' w') w.heap.size l [] a w.drew):(Code.region id ops true).wp P Q' a w:=by
 obtain⟨hns,hm,hlen,hg⟩:=CU hB
 refine wp_region_any hf (sJ (base:=w.heap.size) (wpAny P .any ops Q') (fun _ _ _ h k=>⟨h,k⟩) (fun n listed a w h0 h=>⟨fun h=>absurd h h0,fun i hi=> ?_⟩) hlb hpb hpt hm hns ops.size l [] _ a _ hlen (fun i t z hy=>mkM hmk hy) hg (.inr ⟨Nat.le_refl _,fun p hp=>by cases hp⟩) h)
 obtain⟨_,o,ho,_⟩:=mem_ready.1 hi
 have :=h i hi o ho
 unfold wpOp
 simp only[ho]
 by_cases hw:Region.wanted o (yielded ops a.tmps)=true
 · rw[if_pos hw] at this ⊢
   exact .inl (jI (fun _ _ h=>h) this)
 · rw[if_neg hw] at this ⊢
   exact this
theorem wrV (Lt:World→World→Prop) [LtO Lt] (Rt:World→World→Prop) (tt:TypeId) (hlb:∀v w' b cs,Lt v w'→w.heap.size≤b→Blk v b tt cs→Blk w' b tt cs) (hpb:∀w w',Rt w w'→w.heap.size≤w'.heap.size) (hpt:∀w w' b cs,Rt w w'→Blk w b tt cs→Blk w' b tt cs) (hf:P.follows .mixedOrders=true) (M:List Nat) (l:List St) (hB:tC .any ops M l=true) (hmk:rZ P (fun t=>t=tt) ops l)
 (h:wpG (owP P) Lt Rt P ops (fun a' w'=>Q' .normal a' w') w.heap.size l [] a w.drew):(Code.region id ops true).wp P Q' a w:=
 qo (by rintro v w' b cs _ rfl;exact hlb v w' b cs) hpb (by rintro v w' b cs _ rfl;exact hpt v w' b cs) hf M l hB hmk h
theorem wrU (Rt:World→World→Prop) (tt:TypeId) (hpb:∀w w',Rt w w'→w.heap.size≤w'.heap.size) (hpt:∀w w' b cs,Rt w w'→Blk w b tt cs→Blk w' b tt cs) (hf:P.follows .mixedOrders=true) (M:List Nat) (l:List St) (hB:tC .any ops M l=true) (hmk:rZ P (fun t=>t=tt) ops l)
 (h:wpG (owP P) Gr Rt P ops (fun a' w'=>Q' .normal a' w') w.heap.size l [] a w.drew):(Code.region id ops true).wp P Q' a w:=
 wrV Gr Rt tt (fun _ _ _ _ h _ k=>h.blk k) hpb hpt hf M l hB hmk h
def mkA (P:Program) (ops:Array Oper):List St→Prop
 | []=>True
 | .m i t z::l=>(∀o,ops[i]?=some o→vI P o t z)∧mkA P ops l
 |_::l=>mkA P ops l
theorem nP:∀{l:List St},mkA P ops l→rZ P (fun _=>True) ops l
 | [],_=>trivial
 | .m ..::l,h=>⟨⟨h.1,trivial⟩,nP (l:=l) h.2⟩
 | .p _::l,h=>nP (l:=l) h
 | .q _::l,h=>nP (l:=l) h
 | .x _ _::l,h=>nP (l:=l) h
theorem wrG (hf:P.follows .mixedOrders=true) (M:List Nat) (l:List St) (hB:tC .any ops M l=true) (hmk:mkA P ops l)
 (h:wpG (owP P) Gr Gr P ops (fun a' w'=>Q' .normal a' w') w.heap.size l [] a w.drew):(Code.region id ops true).wp P Q' a w:=
 qo (fun _ _ _ _ _ _ h _ k=>h.blk k) (fun _ _ h=>h.size) (fun _ _ _ _ _ _ h k=>h.blk k) hf M l hB (nP hmk) h
end
attribute [irreducible] wpG
section
variable {ow:Oper→Act→World→(Act→World→Prop)→Prop} {Lt Rt:World→World→Prop} {P:Program} {ops:Array Oper} {Q:Act→World→Prop} {base i:Nat} {o:Oper} {l:List St} {I:List (Nat×Nat)} {a:Act} {w:World} {v:Value} {q:Prop}
theorem jh (ho:ops[i]?=some o) (hw:Region.wanted o (yielded ops a.tmps)=true) (h:∀w',Gr w w'→∀K:Act→World→Prop,(∀a' w'',Lt w' w''→wpG (owP P) Lt Rt P ops Q base l ((w'.heap.size,w''.heap.size)::I) a' w''→K a' w'')→o.wp P a w' K dF):wpG (owP P) Lt Rt P ops Q base (.c i::l) I a w:=zU ho hw h
theorem WK (ho:ops[i]?=some o) (hw:Region.wanted o (yielded ops a.tmps)=true) (h:∀w',Gr w w'→∀K:Act→World→Prop,(∀a' w'',Rt w' w''→wpG (owP P) Lt Rt P ops Q base l ((w'.heap.size,w''.heap.size)::I) a' w''→K a' w'')→o.wp P a w' K dF):wpG (owP P) Lt Rt P ops Q base (.t i::l) I a w:=zU ho hw h
theorem dV (ho:ops[i]?=some o) (hw:Region.wanted o (yielded ops a.tmps)=true) (h:∀w',Gr w w'→∀K:Act→World→Prop,(∀a' w'',wpG (owP P) Lt Rt P ops Q base l ((w'.heap.size,w''.heap.size)::I) a' w''→K a' w'')→o.wp P a w' K dF):wpG (owP P) Lt Rt P ops Q base (.s i::l) I a w:=zU ho hw (fun w' hg K hK=>h w' hg K (fun a' w'' h=>hK a' w'' trivial h))
theorem gP (k:q) (ho:ops[i]?=some o:=by exact rfl) (hw:Region.wanted o (yielded ops a.tmps)=true:=by exact rfl) (hv:∀w',pLa P o a w' v:=by (intro wq;unfold pLa;go_simp;first|exact rfl|exact⟨rfl,rfl⟩)) (h:Hid q→wpG ow Lt Rt P ops Q base l I (a.put o.dst v) w:=by (intro k0;go_simp;exact k0.out)):wpG ow Lt Rt P ops Q base (.p i::l) I a w:=SI ho hw v hv (h (Xh k))
theorem gQ {F:World→Prop} (f:∀w',Lt w w'→F w') (k:q) (ho:ops[i]?=some o:=by exact rfl) (hw:Region.wanted o (yielded ops a.tmps)=true:=by exact rfl) (hv:∀w',F w'→pLa P o a w' v:=by (intro wq hf;unfold pLa;go_simp;first|exact rfl|exact⟨rfl,rfl⟩)) (h:Hid q→wpG ow Lt Rt P ops Q base l I (a.put o.dst v) w:=by (intro k0;go_simp;exact k0.out)):wpG ow Lt Rt P ops Q base (.q i::l) I a w:=SH ho hw v (fun w' hw'=>hv w' (f w' hw')) (h (Xh k))
theorem gS {p:Prop} (k:q) (h:Hid q→p:=by (intro k0;(first|refine wGp rfl rfl ?_|refine wGq rfl rfl ?_|refine wGc rfl rfl ?_);go_simp;exact k0.out)):p:=h k
theorem gC (k:q) (ho:ops[i]?=some o:=by exact rfl) (hw:Region.wanted o (yielded ops a.tmps)=true:=by exact rfl) (h:Hid q→∀w',Gr w w'→∀K:Act→World→Prop,(∀a' w'',Lt w' w''→wpG (owP P) Lt Rt P ops Q base l ((w'.heap.size,w''.heap.size)::I) a' w''→K a' w'')→o.wp P a w' K dF:=by (intro k0 w' g K hK;go_simp;revert w' g K hK;exact k0.out)):wpG (owP P) Lt Rt P ops Q base (.c i::l) I a w:=jh ho hw (h (Xh k))
theorem gT (k:q) (ho:ops[i]?=some o:=by exact rfl) (hw:Region.wanted o (yielded ops a.tmps)=true:=by exact rfl) (h:Hid q→∀w',Gr w w'→∀K:Act→World→Prop,(∀a' w'',Rt w' w''→wpG (owP P) Lt Rt P ops Q base l ((w'.heap.size,w''.heap.size)::I) a' w''→K a' w'')→o.wp P a w' K dF:=by (intro k0 w' g K hK;go_simp;revert w' g K hK;exact k0.out)):wpG (owP P) Lt Rt P ops Q base (.t i::l) I a w:=WK ho hw (h (Xh k))
end
end
end Go.Proofs.YtipdlnejmcmbbaaGreatDoor
