/- Own texts, one behind the other. No condition. -/
import Derived.Test.YtipdlnejmcmbbaaGreatDoorObPkAC
import Derived.Maps.Own
import Derived.Maps.Views
import Derived.Lib.SlKeysI
import Derived.Lib.SlMapMerge
set_option linter.unusedVariables false
set_option maxRecDepth 100000
set_option maxHeartbeats 8000000
set_option linter.unusedSimpArgs false
namespace Go.Proofs.YtipdlnejmcmbbaaGreatDoor
section
open Go.RowKit
def aX (P:Program) (ops:Array Oper) (rd:Nat→Bool) (C:World→Prop):List Nat→Act→(Act→Prop)→Prop
 | [],a,K=>K a
 |i::l,a,K=>match ops[i]? with
  |none=>False
  |some o=>if Region.wanted o (yielded ops a.tmps)=true then ∃v,(∀w',(rd i=true→C w')→pLa P o a w' v)∧aX P ops rd C l (a.put o.dst v) K else aX P ops rd C l (a.put o.dst undef) K
def dR (P:Program) (md:Region.Mode) (ops:Array Oper) (Q:Act→World→Prop) (C:World→Prop) (tail:Nat→Bool):Nat→Array Bool→Act→World→Prop
 |0,listed,a,w=>Region.ready md ops listed=[]∧Q a w
 |n+1,listed,a,w=>Region.ready md ops listed≠[]∧∀i∈Region.ready md ops listed,match ops[i]? with
  |none=>False
  |some o=>if Region.wanted o (yielded ops a.tmps)=true then o.wp P a w (fun a' w'=>(tail i=false→C w')∧dR P md ops Q C tail n (listed.setIfInBounds i true) a' w') dF else dR P md ops Q C tail n (listed.setIfInBounds i true) (a.put o.dst undef) w
def ext (l:List Nat) (listed:Array Bool):Array Bool:=l.foldl (fun ls i=>ls.setIfInBounds i true) listed
section
variable {P:Program} {ops:Array Oper} {Q:Act→World→Prop} {C:World→Prop} {md:Region.Mode} {tail:Nat→Bool} {rd:Nat→Bool}
theorem set_comm (ls:Array Bool) (i j:Nat):(ls.setIfInBounds i true).setIfInBounds j true=(ls.setIfInBounds j true).setIfInBounds i true:=by
 by_cases h:i=j
 · subst h;rfl
 · exact Array.setIfInBounds_comm _ _ h
theorem wK:∀(l:List Nat) (ls:Array Bool) (j:Nat),ext l (ls.setIfInBounds j true)=(ext l ls).setIfInBounds j true
 | [],_,_=>rfl
 |i::l,ls,j=>by
  show ext l ((ls.setIfInBounds j true).setIfInBounds i true)=(ext l (ls.setIfInBounds i true)).setIfInBounds j true
  rw[set_comm,wK l]
theorem UZ (l1 l2:List Nat) (i:Nat) (ls:Array Bool):ext (l1++l2) (ls.setIfInBounds i true)=ext (l1++i::l2) ls:=by
 have e:∀l l' ls,ext (l++l') ls=ext l' (ext l ls):=fun l l' ls=>by unfold ext;rw[List.foldl_append]
 rw[e,e,wK]
 rfl
theorem vK:∀(l:List Nat) (ls:Array Bool) {j:Nat},j∈Region.ready md ops ls→j∉l→j∈Region.ready md ops (ext l ls)
 | [],_,_,h,_=>h
 |i::l,ls,j,h,hn=>vK l (ls.setIfInBounds i true) (ready_mono h (fun e=>hn (e▸List.mem_cons_self))) (fun hm=>hn (List.mem_cons_of_mem _ hm))
theorem nI {K K':Act→Prop} (h:∀a,K a→K' a):∀(l:List Nat) (a:Act),aX P ops rd C l a K→aX P ops rd C l a K'
 | [],a,hh=>h a hh
 |i::l,a,hh=>by
  unfold aX at *
  split
  · rename_i ho;simp only[ho] at hh
  · rename_i o ho
    simp only[ho] at hh
    split
    · rename_i hw;simp only[hw,if_true] at hh;obtain⟨v,hv,hh⟩:=hh;exact⟨v,hv,nI h l _ hh⟩
    · rename_i hw;simp only[hw] at hh;exact nI h l _ hh
theorem ni {K:Act→Prop}:∀(l:List Nat) (a:Act),aX P ops rd C l a K→∃a',K a'
 | [],a,h=>⟨a,h⟩
 |x::l,a,h=>by
  unfold aX at h
  split at h
  · exact h.elim
  · split at h
    · obtain⟨v,_,h⟩:=h;exact ni l _ h
    · exact ni l _ h
theorem zH {o:Oper} {i:Nat} {l2:List Nat} {K:Act→Prop} (hi:ops[i]?=some o) (hs:∀cs b,o.op≠ .select cs b):
 ∀(l1:List Nat) (a:Act),(∀x∈l1,∀ox,ops[x]?=some ox→ox.apart ops o=true∧∀cs b,ox.op≠ .select cs b)→aX P ops rd C (l1++i::l2) a K→
  (Region.wanted o (yielded ops a.tmps)=true∧∃v,(∀w',(rd i=true→C w')→pLa P o a w' v)∧aX P ops rd C (l1++l2) (a.put o.dst v) K)∨(Region.wanted o (yielded ops a.tmps)=false∧aX P ops rd C (l1++l2) (a.put o.dst undef) K)
 | [],a,_,h=>by
  rw[List.nil_append] at h ⊢
  unfold aX at h
  simp only[hi] at h
  split at h
  · rename_i hw;exact .inl ⟨hw,h⟩
  · rename_i hw;exact .inr ⟨by simpa using hw,h⟩
 |x::l1,a,hap,h=>by
  have IH:=zH (l2:=l2) (K:=K) hi hs l1
  have hap':=fun y hy=>hap y (List.mem_cons_of_mem _ hy)
  rw[List.cons_append] at h
  unfold aX at h
  split at h
  · exact h.elim
  · rename_i ox ho
    obtain⟨hapx,hsx⟩:=hap x List.mem_cons_self ox ho
    obtain⟨e1,e2,e3⟩:=Oper.apart_spec hapx
    have back:∀u v,(aX P ops rd C (l1++l2) ((a.put ox.dst u).put o.dst v) K)→aX P ops rd C (l1++l2) ((a.put o.dst v).put ox.dst u) K:=fun u v hh=>by rw[←Act.put_comm a u v e2];exact hh
    have sw:∀u v,(Region.wanted ox (yielded ops a.tmps)=true→∀w',(rd x=true→C w')→pLa P ox a w' u)→(Region.wanted ox (yielded ops a.tmps)=false→u=undef)→aX P ops rd C (l1++l2) ((a.put ox.dst u).put o.dst v) K→aX P ops rd C (x::(l1++l2)) (a.put o.dst v) K:=fun u v hu hu' hh=>by
     unfold aX
     simp only[ho,wanted_put ox a o.dst v e3]
     split
     · rename_i hw;exact⟨u,fun w' hc=>pLo (execOp_put ox hsx a o.dst v e3) (hu hw w' hc),back u v hh⟩
     · rename_i hw;rw[hu' (by simpa using hw)] at hh;exact back undef v hh
    have fin:∀u,(Region.wanted ox (yielded ops a.tmps)=true→∀w',(rd x=true→C w')→pLa P ox a w' u)→(Region.wanted ox (yielded ops a.tmps)=false→u=undef)→aX P ops rd C (l1++i::l2) (a.put ox.dst u) K→
     (Region.wanted o (yielded ops a.tmps)=true∧∃v,(∀w',(rd i=true→C w')→pLa P o a w' v)∧aX P ops rd C (x::l1++l2) (a.put o.dst v) K)∨(Region.wanted o (yielded ops a.tmps)=false∧aX P ops rd C (x::l1++l2) (a.put o.dst undef) K):=fun u hu hu' hh=>by
     rcases IH _ hap' hh with⟨h1,v,h2,h3⟩| ⟨h1,h3⟩
     · exact .inl ⟨(wanted_put o a ox.dst u e1).symm.trans h1,v,fun w' hc=>pLo (execOp_put o hs a ox.dst u e1).symm (h2 w' hc),sw u v hu hu' h3⟩
     · exact .inr ⟨(wanted_put o a ox.dst u e1).symm.trans h1,sw u undef hu hu' h3⟩
    split at h
    · rename_i hw
      obtain⟨u,hu,h⟩:=h
      exact fin u (fun _=>hu) (fun e=>by rw[hw] at e;cases e) h
    · rename_i hw
      exact fin undef (fun e=>absurd e hw) (fun _=>rfl) h
theorem Fw {o:Oper} {w:World} {K:Act→World→Prop} (hs:∀cs b,o.op≠ .select cs b):∀(l:List Nat) (a:Act),(∀x∈l,∀ox,ops[x]?=some ox→ox.apart ops o=true∧∀cs b,ox.op≠ .select cs b)→
 aX P ops rd C l a (fun a'=>if Region.wanted o (yielded ops a'.tmps)=true then o.wp P a' w K dF else K (a'.put o.dst undef) w)→
 if Region.wanted o (yielded ops a.tmps)=true then o.wp P a w (fun a' w'=>aX P ops rd C l a' (fun a''=>K a'' w')) dF else aX P ops rd C l (a.put o.dst undef) (fun a''=>K a'' w)
 | [],a,_,h=>h
 |x::l,a,hap,h=>by
  have IH:=Fw (w:=w) (K:=K) hs l
  have hap':=fun y hy=>hap y (List.mem_cons_of_mem _ hy)
  unfold aX at h
  split at h
  · exact h.elim
  · rename_i ox ho
    obtain⟨hapx,hsx⟩:=hap x List.mem_cons_self ox ho
    obtain⟨e1,e2,e3⟩:=Oper.apart_spec hapx
    have fin:∀u,(Region.wanted ox (yielded ops a.tmps)=true→∀w',(rd x=true→C w')→pLa P ox a w' u)→(Region.wanted ox (yielded ops a.tmps)=false→u=undef)→
     aX P ops rd C l (a.put ox.dst u) (fun a'=>if Region.wanted o (yielded ops a'.tmps)=true then o.wp P a' w K dF else K (a'.put o.dst undef) w)→
     if Region.wanted o (yielded ops a.tmps)=true then o.wp P a w (fun a' w'=>aX P ops rd C (x::l) a' (fun a''=>K a'' w')) dF else aX P ops rd C (x::l) (a.put o.dst undef) (fun a''=>K a'' w):=fun u hu hu' hh=>by
     have h2:=IH _ hap' hh
     rw[wanted_put o a ox.dst u e1] at h2
     split
     · rename_i hw
       rw[if_pos hw] at h2
       refine Oper.wp_mono ?_ (KD (ops:=ops) (x:=ox) e1 e2 hs h2)
       rintro a' w' ⟨ds,r,rfl,h3⟩
       unfold aX
       simp only[ho,wanted_put ox ({a with defers:=ds}:Act) o.dst r e3]
       split
       · rename_i hwx;exact⟨u,fun w'' hc=>pLo (execOp_put ox hsx ({a with defers:=ds}:Act) o.dst r e3) (hu hwx w'' hc),h3⟩
       · rename_i hwx;rw[hu' (by simpa using hwx)] at h3;exact h3
     · rename_i hw
       rw[if_neg hw,Act.put_comm a u undef e2] at h2
       unfold aX
       simp only[ho,wanted_put ox a o.dst undef e3]
       split
       · rename_i hwx;exact⟨u,fun w'' hc=>pLo (execOp_put ox hsx a o.dst undef e3) (hu hwx w'' hc),h2⟩
       · rename_i hwx;rw[hu' (by simpa using hwx)] at h2;exact h2
    split at h
    · rename_i hw
      obtain⟨u,hu,h⟩:=h
      exact fin u (fun _=>hu) (fun e=>by rw[hw] at e;cases e) h
    · rename_i hw
      exact fin undef (fun e=>absurd e hw) (fun _=>rfl) h
def oZ (md:Region.Mode) (ops:Array Oper) (x j:Nat):Bool:=match ops[x]?,ops[j]? with
 |some ox,some oj=>pQ md oj x || ox.apart ops oj
 |_,_=>false
def Ez (md:Region.Mode) (ops:Array Oper):List Nat→Bool
 | []=>true
 |x::l=>l.all (oZ md ops x) && Ez md ops l
def preB (md:Region.Mode) (ops:Array Oper) (rd tail:Nat→Bool) (l:List Nat):Bool:=
 Region.noSelect ops && (Ez md ops l && ((List.range ops.size).all (fun j=>l.contains j || l.all fun x=>oZ md ops x j && (!tail j || !rd x || match ops[j]? with|some oj=>pQ md oj x|none=>false))))
theorem Ag:∀{l:List Nat},Ez md ops l=true→List.Pairwise (fun x j=>oZ md ops x j=true) l
 | [],_=>List.Pairwise.nil
 |x::l,h=>by
  unfold Ez at h
  rw[Bool.and_eq_true] at h
  exact List.Pairwise.cons (fun y hy=>List.all_eq_true.1 h.1 y hy) (Ag h.2)
def ML (md:Region.Mode) (ops:Array Oper):List Nat→List Nat→Bool
 |_,[]=>true
 |done,x::l=>(match ops[x]? with|some o=>o.after.all (fun e=> !Region.binds md e || done.contains e.on)|none=>false) && (!done.contains x && ML md ops (x::done) l)
structure vH (md:Region.Mode) (ops:Array Oper) (rd tail:Nat→Bool) (l0 l:List Nat) (listed:Array Bool):Prop where
 pw:List.Pairwise (fun x j=>oZ md ops x j=true) l
 ap:∀j,j<ops.size→j∉l0→∀x∈l,oZ md ops x j=true∧(tail j=true→rd x=true→∃oj,ops[j]?=some oj∧pQ md oj x=true)
 out:∀j∈l0,j∉l→listed.getD j true=true
 un:∀x∈l,x<ops.size∧listed.getD x true=false
 top:∀l1 x l2,l=l1++x::l2→∃o,ops[x]?=some o∧∀e∈o.after,Region.binds md e=true→listed.getD e.on false=true∨e.on∈l1
 nd:l.Nodup
theorem MO {o:Oper} {x:Nat} (h:pQ md o x=true):∃e∈o.after,Region.binds md e=true∧e.on=x:=by
 unfold pQ at h
 rw[Array.any_eq_true'] at h
 obtain⟨e,he,h⟩:=h
 simp only[Bool.and_eq_true,beq_iff_eq] at h
 exact⟨e,he,h.1,h.2⟩
theorem vH.Hl {l0 l:List Nat} {listed:Array Bool} (h:vH md ops rd tail l0 l listed) {j:Nat} (hj:j∈Region.ready md ops listed) {x:Nat} (hx:x∈l) {oj:Oper} (hoj:ops[j]?=some oj):pQ md oj x=false:=by
 rw[Bool.eq_false_iff]
 intro he
 obtain⟨e,hee,hb,rfl⟩:=MO he
 obtain⟨_,o,ho,hall⟩:=mem_ready.1 hj
 rw[hoj] at ho
 cases ho
 have h1:=hall e hee hb
 have h2:=(h.un _ hx).2
 rcases Nat.lt_or_ge e.on listed.size with h'|h'
 · simp[h'] at h1 h2;rw[h1] at h2;cases h2
 · simp[Array.getElem?_eq_none h'] at h1
theorem vH.apart {l0 l:List Nat} {listed:Array Bool} (hns:Region.noSelect ops=true) (h:vH md ops rd tail l0 l listed) {j:Nat} (hj:j∈Region.ready md ops listed) {oj:Oper} (hoj:ops[j]?=some oj) {x:Nat} (hx:x∈l) (hap:oZ md ops x j=true):∀ox,ops[x]?=some ox→ox.apart ops oj=true∧∀cs b,ox.op≠ .select cs b:=by
 intro ox hox
 unfold oZ at hap
 simp only[hox,hoj,h.Hl hj hx hoj,Bool.false_or] at hap
 exact⟨hap,fun cs b=>Region.noSelect_spec hns _ ox cs b hox⟩
theorem oD {Q':Exit→Act→World→Prop} {l0:List Nat} (hns:Region.noSelect ops=true):∀(n m:Nat) (l:List Nat) (listed:Array Bool) (a:Act) (w:World),l.length+m=n→vH md ops rd tail l0 l listed→(C w∨∀x∈l,rd x=false)→
 aX P ops rd C l a (fun a'=>dR P md ops (fun a w=>Q' .normal a w) C tail m (ext l listed) a' w)→wpAny P md ops Q' n listed a w
 |0,m,l,listed,a,w,hl,hI,hC,h=>by
  have hl0:l=[]:=List.eq_nil_of_length_eq_zero Xf
  have hm0:m=0:=by omega
  subst hl0 hm0
  exact h
 |n+1,m,l,listed,a,w,hl,hI,hC,h=>by
  refine⟨fun h0=> ?_,fun j hj=> ?_⟩
  · exfalso
    cases l with
    |nil=>
     cases m with
     |zero=>simp at hl
     |succ m=>
      have h2:dR P md ops (fun a w=>Q' .normal a w) C tail (m+1) listed a w:=h
      unfold dR at h2
      exact h2.1 h0
    |cons x l=>
     obtain⟨o,ho,hall⟩:=hI.top [] x l rfl
     have :x∈Region.ready md ops listed:=mem_ready.2 ⟨(hI.un x List.mem_cons_self).2,o,ho,fun e he hb=>by
      rcases hall e he hb with h|h
      · exact h
      · cases h⟩
     rw[h0] at this
     cases this
  · obtain⟨hu,o,ho,hall⟩:=mem_ready.1 hj
    have hso:∀cs b,o.op≠ .select cs b:=fun cs b=>Region.noSelect_spec hns _ o cs b ho
    unfold wpOp
    simp only[ho]
    by_cases hjl:j∈l
    · obtain⟨l1,l2,rfl⟩:=List.append_of_mem hjl
      have hnd:=List.nodup_append.1 hI.nd
      have hn1:∀x∈l1,x≠j:=fun x hx=>hnd.2.2 x hx j List.mem_cons_self
      have hn2:∀x∈l2,x≠j:=fun x hx e=>(List.nodup_cons.1 hnd.2.1).1 (e▸hx)
      have hn12:∀x∈l1++l2,x≠j:=fun x hx=>(List.mem_append.1 hx).elim (hn1 x) (hn2 x)
      have hsub:∀x∈l1++l2,x∈l1++j::l2:=fun x hx=>(List.mem_append.1 hx).elim (List.mem_append_left _) (fun h=>List.mem_append_right _ (List.mem_cons_of_mem _ h))
      have hI':vH md ops rd tail l0 (l1++l2) (listed.setIfInBounds j true):=by
       refine⟨hI.pw.sublist (List.Sublist.append (List.Sublist.refl _) (List.sublist_cons_self j l2)),fun k hk hn x hx=>hI.ap k hk hn x (hsub x hx),fun k hk hn=> ?_,fun x hx=>⟨(hI.un x (hsub x hx)).1,by rw[getD_set_ne true (fun e=>hn12 x hx e.symm)];exact (hI.un x (hsub x hx)).2⟩,fun k1 x k2 e=> ?_,List.Nodup.sublist (List.Sublist.append (List.Sublist.refl _) (List.sublist_cons_self j l2)) hI.nd⟩
       · by_cases hkj:j=k
         · subst hkj
           rcases Nat.lt_or_ge j listed.size with h'|h'
           · simp[h']
           · simp[Array.getElem?_eq_none h'] at hu
         · rw[getD_set_ne true hkj]
           refine hI.out k hk (fun hm=>hn ?_)
           rcases List.mem_append.1 hm with hm|hm
           · exact List.mem_append_left _ hm
           · rcases List.mem_cons.1 hm with hm|hm
             · exact absurd hm.symm hkj
             · exact List.mem_append_right _ hm
       have key:∃m1 m2,l1++j::l2=m1++x::m2∧∀y∈m1,y=j∨y∈k1:=by
        rcases List.append_eq_append_iff.1 e with⟨c,h1,h2⟩| ⟨c,h1,h2⟩
        ·
         exact⟨l1++j::c,k2,by rw[h2];simp,fun y hy=>by
          rcases List.mem_append.1 hy with hy|hy
          · right;rw[h1];exact List.mem_append_left _ hy
          · rcases List.mem_cons.1 hy with hy|hy
            · exact .inl hy
            · right;rw[h1];exact List.mem_append_right _ hy⟩
        ·
         cases c with
         |nil=>
          rw[List.nil_append] at h2
          exact⟨l1++ [j],k2,by rw[←h2];simp,fun y hy=>by
           rcases List.mem_append.1 hy with hy|hy
           · right;rw[h1] at hy;simpa using hy
           · left;simpa using hy⟩
         |cons y c=>
          rw[List.cons_append] at h2
          injection h2 with h2 h3
          subst h2
          exact⟨k1,c++j::l2,by rw[h1];simp,fun z hz=> .inr hz⟩
       obtain⟨m1,m2,e1,e2⟩:=key
       obtain⟨ox,hox,hall'⟩:=hI.top m1 x m2 e1
       refine⟨ox,hox,fun e' he' hb'=> ?_⟩
       rcases hall' e' he' hb' with h'|h'
       · exact .inl (getD_set_true h')
       · rcases e2 _ h' with rfl|h'
         · left
           have hlt:e'.on<listed.size:=by
            rcases Nat.lt_or_ge e'.on listed.size with h|h
            · exact h
            · simp[Array.getElem?_eq_none h] at hu
           simp[hlt]
         · exact .inr h'
      have hC':rd j=true→C w:=fun hr=>hC.resolve_right (fun e=>by have :=e j (List.mem_append_right _ List.mem_cons_self);rw[hr] at this;cases this)
      have hC2:C w∨∀x∈l1++l2,rd x=false:=hC.imp id (fun e x hx=>e x (hsub x hx))
      have hlen:(l1++l2).length+m=n:=by simp at hl ⊢;omega
      have IH:∀a',aX P ops rd C (l1++l2) a' (fun a'=>dR P md ops (fun a w=>Q' .normal a w) C tail m (ext (l1++j::l2) listed) a' w)→wpAny P md ops Q' n (listed.setIfInBounds j true) a' w:=fun a' hh=>oD (Q':=Q') hns n m (l1++l2) (listed.setIfInBounds j true) a' w hlen hI' hC2 (by rw[UZ];exact hh)
      rcases zH (i:=j) ho hso l1 a (fun x hx=>hI.apart hns hj ho (List.mem_append_left _ hx) ((List.pairwise_append.1 hI.pw).2.2 x hx j List.mem_cons_self)) h with⟨hw,v,hv,h'⟩| ⟨hw,h'⟩
      · rw[if_pos hw]
        exact .inl (QL (hv w hC') (IH _ h'))
      · rw[if_neg (by rw[hw];decide)]
        exact IH _ h'
    · have hjn:∀x∈l,x≠j:=fun x hx e=>hjl (e▸hx)
      have hj0:j∉l0:=fun h0=>by have :=hI.out j h0 hjl;rw[this] at hu;cases hu
      have hjs:=(Array.getElem?_eq_some_iff.1 ho).1
      cases m with
      |zero=>
       exfalso
       obtain⟨a',h'⟩:=ni _ _ h
       unfold dR at h'
       have :=vK l listed hj hjl
       rw[h'.1] at this
       cases this
      |succ m=>
       have hI':vH md ops rd tail l0 l (listed.setIfInBounds j true):=⟨hI.pw,hI.ap,fun k hk hn=>by
        by_cases hkj:j=k
        · subst hkj;exact absurd hk hj0
        · rw[getD_set_ne true hkj];exact hI.out k hk hn,fun x hx=>⟨(hI.un x hx).1,by rw[getD_set_ne true (fun e=>hjn x hx e.symm)];exact (hI.un x hx).2⟩,fun l1 x l2 e=>by
        obtain⟨ox,hox,hall'⟩:=hI.top l1 x l2 e
        exact⟨ox,hox,fun e' he' hb'=>(hall' e' he' hb').imp getD_set_true id⟩,hI.nd⟩
       have hlen:l.length+m=n:=by omega
       have IH:∀a' w',(C w'∨∀x∈l,rd x=false)→aX P ops rd C l a' (fun a'=>dR P md ops (fun a w=>Q' .normal a w) C tail m (ext l (listed.setIfInBounds j true)) a' w')→wpAny P md ops Q' n (listed.setIfInBounds j true) a' w':=fun a' w' hc hh=>oD (Q':=Q') hns n m l (listed.setIfInBounds j true) a' w' hlen hI' hc hh
       have hfin:∀a' w',aX P ops rd C l a' (fun a''=>(tail j=false→C w'∨∀x∈l,rd x=false)∧dR P md ops (fun a w=>Q' .normal a w) C tail m (ext l (listed.setIfInBounds j true)) a'' w')→wpAny P md ops Q' n (listed.setIfInBounds j true) a' w':=fun a' w' hh=>by
        refine IH a' w' ?_ (nI (fun a'' h4=>h4.2) l a' hh)
        cases ht:tail j with
        |false=>obtain⟨a'',h4,_⟩:=ni l a' hh;exact h4 ht
        |true=>
         right
         intro x hx
         cases hr:rd x with
         |false=>rfl
         |true=>
          obtain⟨oj,hoj,he⟩:=(hI.ap j hjs hj0 x hx).2 ht hr
          rw[hI.Hl hj hx hoj] at he
          cases he
       have h2:=Fw (w:=w) (K:=fun a' w'=>(tail j=false→C w'∨∀x∈l,rd x=false)∧dR P md ops (fun a w=>Q' .normal a w) C tail m (ext l (listed.setIfInBounds j true)) a' w') hso l a (fun x hx=>hI.apart hns hj ho hx (hI.ap j hjs hj0 x hx).1) (by
        refine nI (fun a' h'=> ?_) l a h
        unfold dR at h'
        have h3:=h'.2 j (vK l listed hj hjl)
        simp only[ho] at h3
        split
        · rename_i hw
          rw[if_pos hw] at h3
          refine Oper.wp_mono ?_ h3
          rintro a'' w'' ⟨h4,h5⟩
          exact⟨fun ht=> .inl (h4 ht),by rw[wK];exact h5⟩
        · rename_i hw
          rw[if_neg hw] at h3
          exact⟨fun _=>hC,by rw[wK];exact h3⟩)
       split
       · rename_i hw
         rw[if_pos hw] at h2
         exact .inl (jI (fun a' w' hh=>hfin a' w' hh) h2)
       · rename_i hw
         rw[if_neg hw] at h2
         exact hfin _ w h2
theorem wrP {id:Nat} {Q':Exit→Act→World→Prop} {a:Act} {w:World} (hf:P.follows .mixedOrders=true) (C:World→Prop) (rd tail:Nat→Bool) (l:List Nat) (m:Nat)
 (hB:preB .any ops rd tail l=true) (hT:ML .any ops [] l=true) (hm:l.length+m=ops.size) (hC:C w.drew)
 (h:aX P ops rd C l a (fun a'=>dR P .any ops (fun a w=>Q' .normal a w) C tail m (ext l (Array.replicate ops.size false)) a' w.drew)):(Code.region id ops true).wp P Q' a w:=by
 unfold preB at hB
 rw[Bool.and_eq_true,Bool.and_eq_true] at hB
 obtain⟨hns,hpw,hall⟩:=hB
 have htop:∀(l done:List Nat),ML .any ops done l=true→(∀l1 x l2,l=l1++x::l2→∃o,ops[x]?=some o∧∀e∈o.after,Region.binds .any e=true→e.on∈done∨e.on∈l1)∧l.Nodup∧∀x∈l,x∉done:=by
  intro l
  induction l with
  |nil=>intro done _;exact⟨fun l1 x l2 e=>by cases l1<;>simp at e,List.nodup_nil,fun x hx=>by cases hx⟩
  |cons y l ih=>
   intro done h
   unfold ML at h
   rw[Bool.and_eq_true,Bool.and_eq_true] at h
   obtain⟨h1,h2,h3⟩:=h
   obtain⟨i1,i2,i3⟩:=ih (y::done) h3
   have hy:y∉done:=by simpa using h2
   refine⟨fun l1 x l2 e=> ?_,List.nodup_cons.2 ⟨fun hm=>i3 y hm List.mem_cons_self,i2⟩,fun x hx=> ?_⟩
   · cases l1 with
     |nil=>
      rw[List.nil_append] at e
      injection e with e1 e2
      subst e1
      split at h1
      · rename_i o ho
        refine⟨o,ho,fun e' he' hb'=> ?_⟩
        rw[Array.all_eq_true_iff_forall_mem] at h1
        have :=h1 e' he'
        simp only[hb',Bool.not_true,Bool.false_or,List.contains_iff_mem] at this
        exact .inl this
      · cases h1
     |cons z l1=>
      rw[List.cons_append] at e
      injection e with e1 e2
      subst e1
      obtain⟨o,ho,hh⟩:=i1 l1 x l2 e2
      refine⟨o,ho,fun e' he' hb'=> ?_⟩
      rcases hh e' he' hb' with h|h
      · rcases List.mem_cons.1 h with h|h
        · exact .inr (by rw[h];exact List.mem_cons_self)
        · exact .inl h
      · exact .inr (List.mem_cons_of_mem _ h)
   · rcases List.mem_cons.1 hx with rfl|hx
     · exact hy
     · exact fun hd=>i3 x hx (List.mem_cons_of_mem _ hd)
 obtain⟨t1,t2,_⟩:=htop l [] hT
 have hlt:∀x∈l,x<ops.size:=fun x hx=>by
  obtain⟨l1,l2,e⟩:=List.append_of_mem hx
  obtain⟨o,ho,_⟩:=t1 l1 x l2 e
  exact (Array.getElem?_eq_some_iff.1 ho).1
 have hI:vH .any ops rd tail l l (Array.replicate ops.size false):=by
  refine⟨Ag hpw,fun j hj hjl x hx=> ?_,fun j hj hn=>absurd hj hn,fun x hx=>⟨hlt x hx,by simp[hlt x hx]⟩,fun l1 x l2 e=> ?_,t2⟩
  · have h0:=List.all_eq_true.1 hall j (List.mem_range.2 hj)
    rw[Bool.or_eq_true] at h0
    have h1:=List.all_eq_true.1 (h0.resolve_left (fun h=>hjl (by simpa using h))) x hx
    simp only[Bool.or_eq_true,Bool.and_eq_true,Bool.not_eq_true'] at h1
    refine⟨h1.1,fun ht hr=> ?_⟩
    rcases h1.2 with (h2|h2)|h2
    · rw[ht] at h2;cases h2
    · rw[hr] at h2;cases h2
    · split at h2
      · rename_i oj hoj;exact⟨oj,hoj,h2⟩
      · cases h2
  · obtain⟨o,ho,hh⟩:=t1 l1 x l2 e
    exact⟨o,ho,fun e' he' hb'=>by
     rcases hh e' he' hb' with h|h
     · cases h
     · exact .inr h⟩
 exact wp_region_any hf (oD hns ops.size m l _ a _ hm hI (.inl hC) h)
theorem rU {i:Nat} {o:Oper} {l:List Nat} {a:Act} {K:Act→Prop} (ho:ops[i]?=some o) (hw:Region.wanted o (yielded ops a.tmps)=true) (h:∃v,(∀w',(rd i=true→C w')→pLa P o a w' v)∧aX P ops rd C l (a.put o.dst v) K):aX P ops rd C (i::l) a K:=by
 unfold aX
 simp only[ho,hw,if_true]
 exact h
theorem rP {i:Nat} {o:Oper} {l:List Nat} {a:Act} {K:Act→Prop} {v:Value} {q:Prop} (k:q) (ho:ops[i]?=some o:=by exact rfl) (hw:Region.wanted o (yielded ops a.tmps)=true:=by exact rfl) (hv:∀w',pLa P o a w' v:=by (intro wq;unfold pLa;go_simp;first|exact rfl|exact⟨rfl,rfl⟩)) (h:Hid q→aX P ops rd C l (a.put o.dst v) K:=by (intro k0;go_simp;exact k0.out)):aX P ops rd C (i::l) a K:=rU ho hw ⟨v,fun w' _=>hv w',h (Xh k)⟩
theorem rQ {F:World→Prop} {i:Nat} {o:Oper} {l:List Nat} {a:Act} {K:Act→Prop} {v:Value} {q:Prop} (f:∀w',C w'→F w') (k:q) (hr:rd i=true:=by exact rfl) (ho:ops[i]?=some o:=by exact rfl) (hw:Region.wanted o (yielded ops a.tmps)=true:=by exact rfl) (hv:∀w',F w'→pLa P o a w' v:=by (intro wq hf;unfold pLa;go_simp;first|exact rfl|exact⟨rfl,rfl⟩)) (h:Hid q→aX P ops rd C l (a.put o.dst v) K:=by (intro k0;go_simp;exact k0.out)):aX P ops rd C (i::l) a K:=rU ho hw ⟨v,fun w' c=>hv w' (f w' (c hr)),h (Xh k)⟩
theorem dQ {a:Act} {K:Act→Prop} (h:K a):aX P ops rd C [] a K:=h
theorem wR1 {n i:Nat} {o:Oper} {listed:Array Bool} {a:Act} {w:World} (hr:Region.ready md ops listed=[i]) (ho:ops[i]?=some o) (hw:Region.wanted o (yielded ops a.tmps)=true)
 (h:∀K:Act→World→Prop,(∀a' w',(tail i=false→C w')→dR P md ops Q C tail n (listed.setIfInBounds i true) a' w'→K a' w')→o.wp P a w K dF):dR P md ops Q C tail (n+1) listed a w:=by
 unfold dR
 refine⟨by rw[hr];exact List.cons_ne_nil _ _,fun j hj=> ?_⟩
 rw[hr] at hj
 obtain rfl:=List.mem_singleton.1 hj
 simp only[ho,hw,if_true]
 exact h _ (fun _ _ h1 h2=>⟨h1,h2⟩)
theorem fE {n i j:Nat} {o o':Oper} {listed:Array Bool} {a:Act} {w:World} (hr:Region.ready md ops listed=[i,j]) (ho:ops[i]?=some o) (hw:Region.wanted o (yielded ops a.tmps)=true) (ho':ops[j]?=some o') (hw':Region.wanted o' (yielded ops a.tmps)=true)
 (h:∀K:Act→World→Prop,(∀a' w',(tail i=false→C w')→dR P md ops Q C tail n (listed.setIfInBounds i true) a' w'→K a' w')→o.wp P a w K dF)
 (h':∀K:Act→World→Prop,(∀a' w',(tail j=false→C w')→dR P md ops Q C tail n (listed.setIfInBounds j true) a' w'→K a' w')→o'.wp P a w K dF):dR P md ops Q C tail (n+1) listed a w:=by
 unfold dR
 refine⟨by rw[hr];exact List.cons_ne_nil _ _,fun k hk=> ?_⟩
 rw[hr] at hk
 rcases List.mem_cons.1 hk with rfl|hk
 · simp only[ho,hw,if_true]
   exact h _ (fun _ _ h1 h2=>⟨h1,h2⟩)
 · obtain rfl:=List.mem_singleton.1 hk
   simp only[ho',hw',if_true]
   exact h' _ (fun _ _ h1 h2=>⟨h1,h2⟩)
theorem aR {listed:Array Bool} {a:Act} {w:World} (hr:Region.ready md ops listed=[]) (h:Q a w):dR P md ops Q C tail 0 listed a w:=by unfold dR;exact⟨hr,h⟩
end
end
section
open Go.RowKit Go.Maps
def Rv (v:Value):Option (DataW Value×List MemPlace):=some (.held v,[])
def dOf (l:List (Int×Value)):DataW Value:=(l.map fun p=>(Lit.int .i64 p.1,DataW.held p.2)).foldl (fun D p=>D.put p.1 p.2) (.map [])
theorem sW (l:List (Int×Value)) (x:Int) (v:Value):dOf (l++ [(x,v)])=(dOf l).put (.int .i64 x) (.held v):=by simp[dOf]
theorem UD (l:List (Int×Value)) (x:Int):has (dOf l) (.int .i64 x)=(l.map Prod.fst).contains x:=by
 unfold dOf
 rw[has_foldPut _ _ _ isMap_empty (by intro p hp;obtain⟨q,_,rfl⟩:=List.mem_map.1 hp;exact trivial)]
 have :has (DataW.map ([]:List (Lit×DataW Value))) (.int .i64 x)=false:=rfl
 rw[this,Bool.false_or,List.any_map]
 induction l with
 |nil=>rfl
 |cons p l ih=>
  simp only[List.any_cons,List.map_cons,List.contains_cons]
  rw[ih]
  congr 1
  refine Bool.eq_iff_iff.2 ?_
  show decide (IntKind.i64=IntKind.i64∧p.1=x)=true↔(x==p.1)=true
  rw[decide_eq_true_iff,beq_iff_eq]
  exact⟨fun h=>h.2.symm,fun h=>⟨rfl,h.symm⟩⟩
def kK (x:Int):List Int→List Int
 | []=>[x]
 |y::t=>if y<x then y::kK x t else if y=x then y::t else x::y::t
def gV (l:List Int):List Int:=l.foldl (fun a x=>kK x a) []
theorem yM (x z:Int):∀l,z∈kK x l↔z=x∨z∈l
 | []=>by simp[kK]
 |y::t=>by
  unfold kK
  split
  · rw[List.mem_cons,yM x z t,List.mem_cons];constructor<;>(intro h;rcases h with h|h|h<;>simp[h])
  · split
    · rename_i h;subst h;simp
    · simp
theorem JO (x:Int):∀l,l.Pairwise (· < ·)→(kK x l).Pairwise (· < ·)
 | [],_=>by simp[kK]
 |y::t,h=>by
  have ht:=List.pairwise_cons.1 h
  unfold kK
  split
  · rename_i hy
    refine List.pairwise_cons.2 ⟨fun z hz=> ?_,JO x t ht.2⟩
    rcases (yM x z t).1 hz with rfl|hz
    · exact hy
    · exact ht.1 z hz
  · split
    · exact h
    · rename_i h1 h2
      refine List.pairwise_cons.2 ⟨fun z hz=> ?_,h⟩
      rcases List.mem_cons.1 hz with rfl|hz
      · omega
      · have :=ht.1 z hz;omega
theorem Lh (l:List Int) (x:Int):gV (l++ [x])=kK x (gV l):=by simp[gV]
theorem SY (l:List Int):∀a:List Int,a.Pairwise (· < ·)→(l.foldl (fun a x=>kK x a) a).Pairwise (· < ·)∧∀z,z∈l.foldl (fun a x=>kK x a) a↔z∈a∨z∈l:=by
 induction l with
 |nil=>intro a h;exact⟨h,fun z=>by simp⟩
 |cons x l ih=>
  intro a h
  have :=ih (kK x a) (JO x a h)
  refine⟨this.1,fun z=> ?_⟩
  rw[List.foldl_cons,this.2 z,yM,List.mem_cons]
  constructor
  · rintro ((h|h)|h)<;>simp[h]
  · rintro (h|h|h)<;>simp[h]
theorem nV (l:List Int):(gV l).Pairwise (· < ·):=(SY l [] List.Pairwise.nil).1
theorem gG (l:List Int) (z:Int):z∈gV l↔z∈l:=by unfold gV;rw[(SY l [] List.Pairwise.nil).2 z];simp
theorem Kr {a b:List Int} (ha:a.Pairwise (· < ·)) (hb:b.Pairwise (· < ·)) (h:∀z,z∈a↔z∈b):a=b:=by
 have na:a.Nodup:=ha.imp (fun {x y} h=>by omega)
 have nb:b.Nodup:=hb.imp (fun {x y} h=>by omega)
 exact List.Perm.eq_of_pairwise (le:=(· < ·)) (fun x y _ _ h1 h2=>by omega) ha hb ((List.perm_ext_iff_of_nodup na nb).2 h)
theorem wX {ss l:List Int} (hn:ss.Nodup) (h:∀z,z∈ss↔z∈l):ss.mergeSort (fun x y=>decide (x≤y))=gV l:=by
 have tr:∀a b c:Int,decide (a≤b)=true→decide (b≤c)=true→decide (a≤c)=true:=fun a b c h1 h2=>by simp at *;omega
 have tot:∀a b:Int,(decide (a≤b) || decide (b≤a))=true:=fun a b=>by simp;omega
 have hp:=List.mergeSort_perm ss (fun x y=>decide (x≤y))
 have hm:(ss.mergeSort (fun x y=>decide (x≤y))).Nodup:=hp.nodup_iff.2 hn
 refine Kr ?_ (nV l) (fun z=>by rw[gG,←h z];exact hp.mem_iff)
 have hle:=List.pairwise_mergeSort tr tot ss
 have :=List.pairwise_and_iff.2 ⟨hle,hm⟩
 exact this.imp (fun {x y} h=>by simp at h;omega)
theorem xU {P:Program} {w:World} {b n:Nat} {l:List (Int×Value)} {ss:List Int} (hk:P.underlying 3=some (.int .i64)) (K:Keyed P 3) (h:w.ownsMap P 3 Rv b n (dOf l)) (hp:ss.Perm (intKeys (dOf l))):
 ss.mergeSort (fun x y=>decide (x≤y))=gV (l.map Prod.fst):=by
 have nd:(gV (l.map Prod.fst)).Nodup:=(nV _).imp (fun {x y} h=>by omega)
 have hc:CollectedI (dOf l) (fun _=>false) (gV (l.map Prod.fst)):=⟨nd,fun x=>by rw[gG,UD,List.contains_iff_mem];simp⟩
 have hq:=hc.perm h K hk (fun _=>rfl)
 have hr:=hp.trans hq.symm
 exact wX (hr.nodup_iff.2 nd) (fun z=>by rw[hr.mem_iff,gG])
theorem FW {H:Type} {R:Value→Option (DataW H×List MemPlace)} {P:Program} {w:World} {b n:Nat} {D:DataW H} {l ss:List Int} (hk:P.underlying 3=some (.int .i64)) (K:Keyed P 3) (h:w.ownsMap P 3 R b n D) (hh:∀x,has D (.int .i64 x)=l.contains x) (hp:ss.Perm (intKeys D)):
 ss.mergeSort (fun x y=>decide (x≤y))=gV l:=by
 have nd:(gV l).Nodup:=(nV _).imp (fun {x y} h=>by omega)
 have hc:CollectedI D (fun _=>false) (gV l):=⟨nd,fun x=>by rw[gG,hh,List.contains_iff_mem];simp⟩
 have hq:=hc.perm h K hk (fun _=>rfl)
 have hr:=hp.trans hq.symm
 exact wX (hr.nodup_iff.2 nd) (fun z=>by rw[hr.mem_iff,gG])
end
end Go.Proofs.YtipdlnejmcmbbaaGreatDoor
