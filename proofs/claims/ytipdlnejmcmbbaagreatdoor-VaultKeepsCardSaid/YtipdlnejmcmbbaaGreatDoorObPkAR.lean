/- Own texts, one behind the other. No condition. -/
import Derived.Test.YtipdlnejmcmbbaaGreatDoorObPkAQ
set_option linter.unusedVariables false
set_option maxRecDepth 100000
set_option maxHeartbeats 8000000
set_option linter.unusedSimpArgs false
namespace Go.Proofs.YtipdlnejmcmbbaaGreatDoor
section
def upF (x:Nat):Nat→Nat→List Nat
 |0,_=>[]
 |f+1,p=>p::if p=0 then [] else upF x f ((p - 1) / x)
theorem Fz (x:Nat):∀f f' p,p<f→p<f'→upF x f p=upF x f' p
 |0,_,p,h,_=>absurd h Xf
 |_,0,p,_,h=>absurd h Xf
 |f+1,f'+1,p,h,h'=>by
  unfold upF
  by_cases hp:p=0
  · simp[hp]
  · have :(p - 1) / x≤p - 1:=Nat.div_le_self _ _
    simp only[hp,if_false]
    rw[Fz x f f' _ Xf Xf]
def upL (x p:Nat):List Nat:=upF x (p+1) p
theorem lY (x:Nat):upL x 0=[0]:=rfl
theorem mo (x p:Nat) (h:0<p):upL x p=p::upL x ((p - 1) / x):=by
 have hd:(p - 1) / x≤p - 1:=Nat.div_le_self _ _
 show upF x (p+1) p=p::upF x ((p - 1) / x+1) ((p - 1) / x)
 rw[upF,if_neg Xf,Fz x p _ _ Xf (Nat.lt_succ_self _)]
theorem Pk (x:Nat):∀p,(upL x p).length≤p+1:=by
 intro p
 have :∀f p,(upF x f p).length≤f:=by
  intro f
  induction f with
  |zero=>intro p;simp[upF]
  |succ f ih=>intro p;unfold upF;split<;>simp;exact ih _
 exact this (p+1) p
theorem VD (x:Nat) (p:Nat):1≤(upL x p).length:=by simp[upL,upF]
def plc (x:Nat):Nat→Nat→Nat→Nat→Nat×Nat
 |0,p,_,l=>(l,p)
 |f+1,p,w,l=>if w≤p then plc x f (p - w) (w*x) (l+1) else (l,p)
def lW (x p:Nat):Nat×Nat:=plc x (p+1) p 1 0
def pgN (x y:Nat):Nat:=ndN x y+x ^ y
def agree (x y p:Nat):Bool:=
 let q:=lW x p
 decide ((upL x p).length=q.1+1) && decide (q.1≤y) && (decide (q.1=y)==decide (ndN x y≤p)) && (decide (q.1=0)==decide (p=0)) && decide (ndN x q.1+q.2=p) &&
 (decide (p=0) || (decide (ndN x (q.1 - 1)+q.2 / x=(p - 1) / x) && decide (q.2 % x=(p - 1) % x))) && decide (ndN x (q.1+1)+q.2*x=x*p+1) && decide (q.2<256)
theorem Pp:((List.range 5).all fun x=>(List.range 4).all fun y=>(List.range 85).all fun p=> !(decide (2≤x) && decide (1≤y) && decide (p<pgN x y)) || agree x y p)=true:=by decide +kernel
theorem Vf:((List.range 5).all fun x=>(List.range 4).all fun y=> !(decide (2≤x) && decide (1≤y)) || decide (pgN x y≤85))=true:=by decide +kernel
theorem Fq {x y:Nat} (h1:2≤x) (h2:x≤4) (h3:1≤y) (h4:y≤3):pgN x y≤85:=by
 have h:=List.all_eq_true.1 (List.all_eq_true.1 Vf x (List.mem_range.2 Xf)) y (List.mem_range.2 Xf)
 simpa [h1,h3] using h
theorem Cy {x y p:Nat} (h1:2≤x) (h2:x≤4) (h3:1≤y) (h4:y≤3) (h5:p<pgN x y):agree x y p=true:=by
 have h6:=Fq h1 h2 h3 h4
 have h:=List.all_eq_true.1 (List.all_eq_true.1 (List.all_eq_true.1 Pp x (List.mem_range.2 Xf)) y (List.mem_range.2 Xf)) p (List.mem_range.2 Xf)
 simpa [h1,h3,h5] using h
theorem zx {x y p:Nat} (h:agree x y p=true):
 (upL x p).length=(lW x p).1+1∧(lW x p).1≤y∧((lW x p).1=y↔ndN x y≤p)∧((lW x p).1=0↔p=0)∧ndN x (lW x p).1+(lW x p).2=p∧
 (0<p→ndN x ((lW x p).1 - 1)+(lW x p).2 / x=(p - 1) / x∧(lW x p).2 % x=(p - 1) % x)∧ndN x ((lW x p).1+1)+(lW x p).2*x=x*p+1∧(lW x p).2<256:=by
 unfold agree at h
 simp only[Bool.and_eq_true,decide_eq_true_iff,Bool.or_eq_true,beq_iff_eq,decide_eq_decide] at h
 obtain⟨⟨⟨⟨⟨⟨⟨a1,a2⟩,a3⟩,a4⟩,a5⟩,a6⟩,a7⟩,a8⟩:=h
 exact⟨a1,a2,a3,a4,a5,fun hp=>a6.resolve_left Xf,a7,a8⟩
section
variable (a d l:Int)
def fI (p:Int):Bool:=decide (0≤p∧p<av a d l+ay a d l)
def lN (n k:Int):Int:=if 0≤n∧n<av a d l∧0≤k∧k<a then a*n+1+k else -1
def iT (p:Int):Int:=if 1≤p∧p<av a d l+ay a d l then (p - 1) / a else -1
def nY (p:Int):Int:=if 1≤p∧p<av a d l+ay a d l then (p - 1) % a else -1
def upI (p:Int):List Int:=if fI a d l p then (upL a.toNat p.toNat).map fun (n:Nat)=>(n:Int) else []
def aW (s:Int):Int:=if 0≤s∧s<ay a d l then av a d l+s else -1
def jG (p:Int):Int:=if 0≤p∧av a d l≤p∧p<av a d l+ay a d l then p - av a d l else -1
end
end
section
open Go.RowKit
theorem CB (a d l:Int):au a d l=av a d l+ay a d l:=rfl
theorem eG (a d l p:Int) (w:World):
 Calls Tryz.prog 139 #[.agg #[.int .i64 a,.int .i64 d,.int .i64 l],.int .i64 p] w (Ms w (fI a d l p)):=by
 obtain⟨wl,HWL,HB,HCELL⟩:=iO w a d l
 by_cases h0:0≤p
 · have t1:decide (0≤p)=true:=by simpa using h0
   have HE:Hid (decide (p<au a d l)=fI a d l p):=by show _=_;unfold fI;rw[CB];simp[h0]
   go_in
   go_wp2_with fail
   rw[←HWL.out]
   refine (jg a d l _).mono ?_
   rintro e w1 ⟨rfl,b1⟩
   have B1:=Xh (bBo HB.out b1);clear b1
   go_wp2
   go_ret
   exact⟨bV HE.out,B1.out⟩
 · have t1:decide (0≤p)=false:=by simpa using h0
   have HE:Hid (fI a d l p=false):=by show _=_;unfold fI;simp[h0]
   go_in
   go_wp2_with fail
   rw[←HWL.out]
   go_ret
   exact⟨bV HE.out.symm,HB.out⟩
theorem Me {a n A N:Int} (h0:0≤a) (h1:a≤A) (h2:0≤n) (h3:n≤N):0≤a*n∧a*n≤A*N:=
 ⟨Int.mul_nonneg h0 h2,Int.le_trans (Int.mul_le_mul_of_nonneg_right h1 h2) (Int.mul_le_mul_of_nonneg_left h3 Xf)⟩
theorem AQ {a d l n:Int} (h0:0≤n) (h:n<av a d l):2≤a∧a≤4:=by
 cases hr:bH a d l
 · rw[mJ hr] at h;omega
 · obtain⟨x,y,rfl,rfl,hx1,hx2,hy1,hy2⟩:=dz hr;omega
theorem jO {a d l n:Int} (h0:0≤n) (h:n<av a d l+ay a d l):bH a d l=true:=by
 cases hr:bH a d l
 · rw[mJ hr,lM hr] at h;omega
 · rfl
theorem Df (a d l n k:Int) (w:World):
 Calls Tryz.prog 114 #[.agg #[.int .i64 a,.int .i64 d,.int .i64 l],.int .i64 n,.int .i64 k] w (lV w (lN a d l n k)):=by
 obtain⟨wl,HWL,HB,HCELL⟩:=iO w a d l
 have hn:=dM a d l
 by_cases hy:0≤n∧n<av a d l∧0≤k∧k<a
 · have HE:Hid (lN a d l n k=a*n+1+k):=by show _=_;unfold lN;rw[if_pos hy]
   obtain⟨h0,h1,h2,h3⟩:=hy
   obtain⟨ha1,ha2⟩:=AQ h0 h1
   have hm:=Me (show 0≤a by omega) ha2 h0 (show n≤200 by omega)
   have t1:decide (n<0)=false:=by simp;omega
   have t2:decide (av a d l≤n)=false:=by simp;omega
   have t3:decide (k<0)=false:=by simp;omega
   have t4:decide (a≤k)=false:=by simp;omega
   go_in
   go_wp2_with fail
   rw[←HWL.out]
   refine (kR a d l _).mono ?_
   rintro e w1 ⟨rfl,b1⟩
   obtain⟨c0,c1,c2⟩:=HCELL.out w1 b1
   have B1:=Xh (bBo HB.out b1);clear b1
   go_wp2
   go_ret
   exact⟨dx HE.out.symm,B1.out⟩
 · have HE:Hid (lN a d l n k= -1):=by show _=_;unfold lN;rw[if_neg hy]
   by_cases h0:n<0
   · have t1:decide (n<0)=true:=by simpa using h0
     clear hy
     go_in
     go_wp2_with fail
     rw[←HWL.out]
     go_ret
     exact⟨dx HE.out.symm,HB.out⟩
   · have t1:decide (n<0)=false:=by simpa using h0
     by_cases h1:av a d l≤n
     case' pos=>have t2:decide (av a d l≤n)=true:=by simpa using h1
     case' neg=>
      have t2:decide (av a d l≤n)=false:=by simpa using h1
      by_cases h2:k<0
      case' pos=>have t3:decide (k<0)=true:=by simpa using h2
      case' neg=>
       have t3:decide (k<0)=false:=by simpa using h2
       have t4:decide (a≤k)=true:=by simp;omega
     all_goals
      clear hy
      go_in
      go_wp2_with fail
      rw[←HWL.out]
      refine (kR a d l _).mono ?_
      rintro e w1 ⟨rfl,b1⟩
      obtain⟨c0,c1,c2⟩:=HCELL.out w1 b1
      have B1:=Xh (bBo HB.out b1);clear b1
      go_wp2
      go_ret
      exact⟨dx HE.out.symm,B1.out⟩
theorem fB {a d l p:Int} (h:0≤p∧p<av a d l+ay a d l):fI a d l p=true:=by unfold fI;simpa using h
theorem lu {a d l p:Int} (h:¬(0≤p∧p<av a d l+ay a d l)):fI a d l p=false:=by unfold fI;simp;omega
theorem yR (a d l p:Int) (w:World):
 Calls Tryz.prog 128 #[.agg #[.int .i64 a,.int .i64 d,.int .i64 l],.int .i64 p] w (lV w (iT a d l p)):=by
 obtain⟨wl,HWL,HB,HCELL⟩:=iO w a d l
 have n1:=dM a d l
 have n2:=bM a d l
 by_cases hy:1≤p∧p<av a d l+ay a d l
 · have HE:Hid (iT a d l p=(p - 1) / a):=by show _=_;unfold iT;rw[if_pos hy]
   obtain⟨h0,h1⟩:=hy
   have ht:=fB (a:=a) (d:=d) (l:=l) (p:=p) ⟨Xf,h1⟩
   obtain⟨x,y,rfl,rfl,hx1,hx2,hy1,hy2⟩:=dz (jO (show 0≤p by omega) h1)
   have t1:(p==0)=false:=by simp;omega
   have t2:((x:Int)==0)=false:=by simp;omega
   go_in
   go_wp2_with fail
   rw[←HWL.out]
   refine (eG _ _ l p _).mono ?_
   rintro e w1 ⟨rfl,b1⟩
   rw[ht]
   obtain⟨c0,c1,c2⟩:=HCELL.out w1 b1
   have B1:=Xh (bBo HB.out b1);clear b1 ht
   go_wp2
   go_ret
   exact⟨dx HE.out.symm,B1.out⟩
 · have HE:Hid (iT a d l p= -1):=by show _=_;unfold iT;rw[if_neg hy]
   by_cases h0:0≤p∧p<av a d l+ay a d l
   case' pos=>
    have ht:=fB h0
    have t1:(p==0)=true:=by simp;omega
   case' neg=>have ht:=lu h0
   all_goals
    clear hy h0
    go_in
    go_wp2_with fail
    rw[←HWL.out]
    refine (eG _ _ l p _).mono ?_
    rintro e w1 ⟨rfl,b1⟩
    rw[ht]
    have B1:=Xh (bBo HB.out b1);clear b1 ht
    go_wp2
    go_ret
    exact⟨dx HE.out.symm,B1.out⟩
theorem PW (a d l p:Int) (w:World):
 Calls Tryz.prog 66 #[.agg #[.int .i64 a,.int .i64 d,.int .i64 l],.int .i64 p] w (lV w (nY a d l p)):=by
 obtain⟨wl,HWL,HB,HCELL⟩:=iO w a d l
 have n1:=dM a d l
 have n2:=bM a d l
 by_cases hy:1≤p∧p<av a d l+ay a d l
 · have HE:Hid (nY a d l p=(p - 1) % a):=by show _=_;unfold nY;rw[if_pos hy]
   obtain⟨h0,h1⟩:=hy
   have ht:=fB (a:=a) (d:=d) (l:=l) (p:=p) ⟨Xf,h1⟩
   obtain⟨x,y,rfl,rfl,hx1,hx2,hy1,hy2⟩:=dz (jO (show 0≤p by omega) h1)
   have t1:(p==0)=false:=by simp;omega
   have t2:((x:Int)==0)=false:=by simp;omega
   go_in
   go_wp2_with fail
   rw[←HWL.out]
   refine (eG _ _ l p _).mono ?_
   rintro e w1 ⟨rfl,b1⟩
   rw[ht]
   obtain⟨c0,c1,c2⟩:=HCELL.out w1 b1
   have B1:=Xh (bBo HB.out b1);clear b1 ht
   go_wp2
   go_ret
   exact⟨dx HE.out.symm,B1.out⟩
 · have HE:Hid (nY a d l p= -1):=by show _=_;unfold nY;rw[if_neg hy]
   by_cases h0:0≤p∧p<av a d l+ay a d l
   case' pos=>
    have ht:=fB h0
    have t1:(p==0)=true:=by simp;omega
   case' neg=>have ht:=lu h0
   all_goals
    clear hy h0
    go_in
    go_wp2_with fail
    rw[←HWL.out]
    refine (eG _ _ l p _).mono ?_
    rintro e w1 ⟨rfl,b1⟩
    rw[ht]
    have B1:=Xh (bBo HB.out b1);clear b1 ht
    go_wp2
    go_ret
    exact⟨dx HE.out.symm,B1.out⟩
theorem Km {a d l p:Int} (h:fI a d l p=true):upI a d l p=(upL a.toNat p.toNat).map fun (n:Nat)=>(n:Int):=by unfold upI;rw[if_pos h]
theorem VB {a d l p:Int} (h:fI a d l p=false):upI a d l p=[]:=by unfold upI;rw[if_neg (by rw[h];simp)]
theorem OI (a d l p:Int) (w:World):
 Calls Tryz.prog 110 #[.agg #[.int .i64 a,.int .i64 d,.int .i64 l],.int .i64 p] w (wM w (upI a d l p)):=by
 obtain⟨wl,HWL,HB,HCELL⟩:=iO w a d l
 have n1:=dM a d l
 have n2:=bM a d l
 by_cases h0:0≤p∧p<av a d l+ay a d l
 · have ht:=fB h0
   have HU:=Xh (Km ht)
   obtain⟨h0,h1⟩:=h0
   have hr:=jO h0 h1
   obtain⟨x,y,rfl,rfl,hx1,hx2,hy1,hy2⟩:=dz hr
   obtain⟨P,rfl⟩:=Int.eq_ofNat_of_zero_le h0
   go_in
   go_wp2_with fail
   go_step3
   go_wp2_with fail
   rw[←HWL.out]
   refine (eG _ _ l _ _).mono ?_
   rintro e w1 ⟨rfl,b1⟩
   rw[ht]
   have B1:=Xh b1;clear b1 ht hr
   go_wp2
   go_step3
   go_wp2
   go_loopw [1,4] (fun pg v wr=>∃(q:Nat) (acc:List Nat),pg= .int .i64 q∧q≤P∧acc++upL x q=upL x P∧Own wl wr 3 1 v acc.length ((acc.map fun (n:Nat)=>(n:Int)).map eD)) (fun pg _ _=>(intOf pg).toNat)
   case atStart=>exact⟨P,[],rfl,Nat.le_refl _,rfl,Own.nil' B1.out _ _⟩
   case round=>
    obtain⟨q,acc,rfl,hq,hacc,hown⟩:=hrel
    have hal:acc.length≤300:=by
     have h:=congrArg List.length hacc
     have h2:=Pk x P
     rw[List.length_append] at h
     omega
    have HA:=Xh hacc;clear hacc
    have HNEW:Hid (((acc++ [q]).map fun (n:Nat)=>(n:Int)).map eD=(acc.map fun (n:Nat)=>(n:Int)).map eD++ [.int .i64 (q:Int)]):=by show _=_;simp[eD]
    by_cases hz:q=0
    · subst hz
      go_wp2_with (at_builtin;refine jy rfl _ _ 85 rfl sD rfl hown #[.int .i64 0] rfl rfl (nJ _ _) Xf ?_;intro v1 w2 own1)
      go_ret
      refine⟨_,rfl,?_⟩
      rw[HU.out,Int.toNat_natCast,Int.toNat_natCast,←HA.out,lY,HNEW.out]
      have :=own1.base HB.out
      simpa using this
    · have t1:((q:Int)==0)=false:=by simp;omega
      have HP:Hid (iT (x:Int) y l q=((q - 1) / x:Nat)):=by
       show _=_
       unfold iT
       rw[if_pos ⟨Xf,Xf⟩]
       have :((q:Int) - 1)=((q - 1:Nat):Int):=by omega
       rw[this];rfl
      have hdiv:(q - 1) / x≤q - 1:=Nat.div_le_self _ _
      have HS:=Xh (mo x q Xf)
      have HBX:=Xh hown.below
      go_wp2_with (first|(at_builtin;refine jy rfl _ _ 85 rfl sD rfl hown #[.int .i64 q] rfl rfl (nJ _ _) Xf ?_;intro v1 w2 own1;obtain⟨c0,c1,c2⟩:=HCELL.out w2 own1.below)|(go_at_call 128;refine (yR _ _ l _ _).mono ?_;rintro e w3 ⟨rfl,b3⟩;rw[HP.out]))
      go_roundw
      case rel=>
       refine⟨(q - 1) / x,acc++ [q],rfl,Xf,?_,?_⟩
       · rw[←HA.out,HS.out];simp
       · rw[HNEW.out,List.length_append]
         exact own1.mono b3
      case measure=>simp[intOf];omega
 · have ht:=lu h0
   have HU:=Xh (VB ht)
   clear h0
   go_in
   go_wp2_with fail
   go_step3
   go_wp2_with fail
   rw[←HWL.out]
   refine (eG _ _ l _ _).mono ?_
   rintro e w1 ⟨rfl,b1⟩
   rw[ht]
   have B1:=Xh (bBo HB.out b1);clear b1 ht
   go_wp2
   rw[Exit.noGoto_ret]
   go_ret
   exact⟨_,rfl,by rw[HU.out];exact Own.nil' B1.out _ _⟩
theorem kM (a d l p:Int) (w:World):
 Calls Tryz.prog 60 #[.agg #[.int .i64 a,.int .i64 d,.int .i64 l],.int .i64 p] w (lV w (aW a d l p)):=by
 obtain⟨wl,HWL,HB,HCELL⟩:=iO w a d l
 have n1:=dM a d l
 have n2:=bM a d l
 by_cases hy:0≤p∧p<ay a d l
 · have HE:Hid (aW a d l p=av a d l+p):=by show _=_;unfold aW;rw[if_pos hy]
   have t1:decide (p<0)=false:=by simp;omega
   have t2:decide (ay a d l≤p)=false:=by simp;omega
   go_in
   go_wp2_with fail
   rw[←HWL.out]
   refine (nD a d l _).mono ?_
   rintro e w1 ⟨rfl,b1⟩
   obtain⟨c0,c1,c2⟩:=HCELL.out w1 b1
   have B1:=Xh (bBo HB.out b1);clear b1
   go_wp2_with fail
   refine (kR a d l _).mono ?_
   rintro e w2 ⟨rfl,b2⟩
   have B2:=Xh (bBo B1.out b2);clear b2
   go_wp2
   go_ret
   exact⟨dx HE.out.symm,B2.out⟩
 · have HE:Hid (aW a d l p= -1):=by show _=_;unfold aW;rw[if_neg hy]
   by_cases h0:p<0
   · have t1:decide (p<0)=true:=by simpa using h0
     clear hy
     go_in
     go_wp2_with fail
     rw[←HWL.out]
     go_ret
     exact⟨dx HE.out.symm,HB.out⟩
   · have t1:decide (p<0)=false:=by simpa using h0
     have t2:decide (ay a d l≤p)=true:=by simp;omega
     clear hy
     go_in
     go_wp2_with fail
     rw[←HWL.out]
     refine (nD a d l _).mono ?_
     rintro e w1 ⟨rfl,b1⟩
     have B1:=Xh (bBo HB.out b1);clear b1
     go_wp2
     go_ret
     exact⟨dx HE.out.symm,B1.out⟩
theorem rX (a d l p:Int) (w:World):
 Calls Tryz.prog 187 #[.agg #[.int .i64 a,.int .i64 d,.int .i64 l],.int .i64 p] w (lV w (jG a d l p)):=by
 obtain⟨wl,HWL,HB,HCELL⟩:=iO w a d l
 have n1:=dM a d l
 have n2:=bM a d l
 by_cases h0:0≤p∧p<av a d l+ay a d l
 · have ht:=fB h0
   by_cases hy:av a d l≤p
   · have HE:Hid (jG a d l p=p - av a d l):=by show _=_;unfold jG;rw[if_pos ⟨h0.1,hy,h0.2⟩]
     have t2:decide (p<av a d l)=false:=by simp;omega
     go_in
     go_wp2_with fail
     rw[←HWL.out]
     refine (eG a d l p _).mono ?_
     rintro e w1 ⟨rfl,b1⟩
     rw[ht]
     obtain⟨c0,c1,c2⟩:=HCELL.out w1 b1
     have B1:=Xh b1;clear b1 ht
     go_wp2_with fail
     refine (kR a d l _).mono ?_
     rintro e w2 ⟨rfl,b2⟩
     have B2:=Xh (bBo B1.out b2);clear b2 c0 c1 c2
     obtain⟨c0,c1,c2⟩:=HCELL.out w2 B2.out
     go_wp2_with fail
     refine (kR a d l _).mono ?_
     rintro e w3 ⟨rfl,b3⟩
     have B3:=Xh (bBo HB.out (bBo B2.out b3));clear b3
     go_wp2
     go_ret
     exact⟨dx HE.out.symm,B3.out⟩
   · have HE:Hid (jG a d l p= -1):=by show _=_;unfold jG;rw[if_neg Xf]
     have t2:decide (p<av a d l)=true:=by simp;omega
     go_in
     go_wp2_with fail
     rw[←HWL.out]
     refine (eG a d l p _).mono ?_
     rintro e w1 ⟨rfl,b1⟩
     rw[ht]
     obtain⟨c0,c1,c2⟩:=HCELL.out w1 b1
     have B1:=Xh b1;clear b1 ht
     go_wp2_with fail
     refine (kR a d l _).mono ?_
     rintro e w2 ⟨rfl,b2⟩
     have B2:=Xh (bBo HB.out (bBo B1.out b2));clear b2
     go_wp2
     go_ret
     exact⟨dx HE.out.symm,B2.out⟩
 · have HE:Hid (jG a d l p= -1):=by show _=_;unfold jG;rw[if_neg Xf]
   have ht:=lu h0
   clear h0
   go_in
   go_wp2_with fail
   rw[←HWL.out]
   refine (eG a d l p _).mono ?_
   rintro e w1 ⟨rfl,b1⟩
   rw[ht]
   have B1:=Xh (bBo HB.out b1);clear b1 ht
   go_wp2
   go_ret
   exact⟨dx HE.out.symm,B1.out⟩
end
section
open Go.RowKit
theorem nA (life:Nat) (w:World) (h:life<18446744073709551616):Calls Tryz.prog 249 #[.int .u64 (life:Int)] w fun e w'=>e= .returned (.int .i64 ((2+life % 2:Nat):Int))∧w=w':=by
 have e:((2+life % 2:Nat):Int)=2+((life % 2:Nat):Int):=by omega
 rw[e]
 have hm:Int.tmod (life:Int) 2=((life % 2:Nat):Int):=(Int.ofNat_tmod life 2).symm
 have hlt:life % 2<2:=Nat.mod_lt _ Xg
 generalize life % 2=r at *
 have w1:IntKind.u64.wrap (r:Int)=(r:Int):=IntWalk.u64_in _ Xf
 have w2:IntKind.i64.wrap (r:Int)=(r:Int):=IntWalk.i64_in _ Xf
 have w3:IntKind.i64.wrap (2+(r:Int))=2+(r:Int):=IntWalk.i64_in _ Xf
 go_in
 go_wp2_with fail
 go_ret
 exact⟨rfl,rfl⟩
theorem pX (life:Nat) (w:World) (h:life<18446744073709551616):Calls Tryz.prog 93 #[.int .u64 (life:Int)] w fun e w'=>e= .returned (.int .i64 ((life % 2:Nat):Int))∧w=w':=by
 have e:((life % 2:Nat):Int)=((life % 2:Nat):Int):=by omega
 rw[e]
 have hm:Int.tmod (life:Int) 2=((life % 2:Nat):Int):=(Int.ofNat_tmod life 2).symm
 have hlt:life % 2<2:=Nat.mod_lt _ Xg
 generalize life % 2=r at *
 have w1:IntKind.u64.wrap (r:Int)=(r:Int):=IntWalk.u64_in _ Xf
 have w2:IntKind.i64.wrap (r:Int)=(r:Int):=IntWalk.i64_in _ Xf
 have w3:IntKind.i64.wrap (2+(r:Int))=2+(r:Int):=IntWalk.i64_in _ Xf
 go_in
 go_wp2_with fail
 go_ret
 exact⟨rfl,rfl⟩
structure Geo (a d l:Int):Prop where
 r:bH a d l=true
theorem pgE (a d l:Int):0≤au a d l∧au a d l≤264:=by
 have h1:=dM a d l;have h2:=bM a d l
 unfold au;omega
theorem Geo.l {a d l:Int} (h:Geo a d l):3≤l∧l≤64:=by
 have :=h.r
 unfold bH lZ at this
 simp only[Bool.and_eq_true,decide_eq_true_eq] at this
 omega
theorem FI (a d l:Int) (i:Nat) (w:World) (h:Geo a d l) (hi:i≤1099511627776):Calls Tryz.prog 174 #[.agg #[.int .i64 a,.int .i64 d,.int .i64 l],.int .i64 (i:Int)] w fun e w'=>e= .returned (.int .i64 ((4+i % l.toNat:Nat):Int))∧Gr w w':=by
 obtain⟨h3,h4⟩:=h.l
 obtain⟨n,rfl⟩:∃n:Nat,l=(n:Int):=⟨l.toNat,Xf⟩
 rw[Int.toNat_natCast]
 have HR:=Xh (gRa a d (n:Int) (w.alloc (.cells #[.int .i64 a,.int .i64 d,.int .i64 (n:Int)] 23)))
 rw[h.r] at HR
 have HC:Hid (Blk (w.alloc (.cells #[.int .i64 a,.int .i64 d,.int .i64 (n:Int)] 23)) w.heap.size 23 [.int .i64 a,.int .i64 d,.int .i64 (n:Int)]):=Blk.new w _ _
 have G0:Hid (Gr w (w.alloc (.cells #[.int .i64 a,.int .i64 d,.int .i64 (n:Int)] 23))):=Gr.alloc _ _
 have hm:Int.tmod (i:Int) (n:Int)=((i % n:Nat):Int):=(Int.ofNat_tmod i n).symm
 have hlt:i % n<n:=Nat.mod_lt _ Xf
 have e:((4+i % n:Nat):Int)=4+((i % n:Nat):Int):=by omega
 rw[e]
 generalize i % n=r at *
 have w2:IntKind.i64.wrap (r:Int)=(r:Int):=IntWalk.i64_in _ Xf
 have w3:IntKind.i64.wrap (4+(r:Int))=4+(r:Int):=IntWalk.i64_in _ Xf
 have t0:decide ((i:Int)<0)=false:=decide_eq_false Xf
 have nz:((n:Int)==0)=false:=by rw[beq_eq_false_iff_ne];omega
 have nz2:¬((n:Int)=0):=by omega
 clear h
 go_in
 go_wp2_with fail
 refine HR.out.mono ?_
 rintro e w1 ⟨rfl,g1⟩
 have k2:=(HC.out.mono g1).cell 2
 have G1:Hid (Gr w w1):=G0.out.trans g1
 clear g1
 go_wp2_with fail
 go_ret
 exact⟨rfl,G1.out⟩
theorem BU (a d l:Int) (life page:Nat) (w:World) (h:Geo a d l) (hl:life<18446744073709551616) (hp:(page:Int)<au a d l):Calls Tryz.prog 293 #[.agg #[.int .i64 a,.int .i64 d,.int .i64 l],.int .u64 (life:Int),.int .i64 (page:Int)] w fun e w'=>e= .returned (.int .i64 (4+l+((life % 2:Nat):Int)*au a d l+(page:Int)))∧Gr w w':=by
 obtain⟨h3,h4⟩:=h.l
 have hpl:=pgE a d l
 have HP:=Xh (jg a d l (w.alloc (.cells #[.int .i64 a,.int .i64 d,.int .i64 l] 23)))
 generalize au a d l=p at *
 have HC:Hid (Blk (w.alloc (.cells #[.int .i64 a,.int .i64 d,.int .i64 l] 23)) w.heap.size 23 [.int .i64 a,.int .i64 d,.int .i64 l]):=Blk.new w _ _
 have G0:Hid (Gr w (w.alloc (.cells #[.int .i64 a,.int .i64 d,.int .i64 l] 23))):=Gr.alloc _ _
 have hm:Int.tmod (life:Int) 2=((life % 2:Nat):Int):=(Int.ofNat_tmod life 2).symm
 have hlt:life % 2<2:=Nat.mod_lt _ Xg
 generalize life % 2=r at *
 have hr:(r:Int)=0∨(r:Int)=1:=by omega
 have hrp:0≤(r:Int)*p∧(r:Int)*p≤264:=by rcases hr with e|e<;>rw[e]<;>omega
 have w1:IntKind.u64.wrap (r:Int)=(r:Int):=IntWalk.u64_in _ Xf
 have w2:IntKind.i64.wrap (r:Int)=(r:Int):=IntWalk.i64_in _ Xf
 have w3:IntKind.i64.wrap (4+l)=4+l:=IntWalk.i64_in _ Xf
 have w4:IntKind.i64.wrap ((r:Int)*p)=(r:Int)*p:=IntWalk.i64_in _ Xf
 have w5:IntKind.i64.wrap (4+l+(r:Int)*p)=4+l+(r:Int)*p:=IntWalk.i64_in _ Xf
 have w6:IntKind.i64.wrap (4+l+(r:Int)*p+(page:Int))=4+l+(r:Int)*p+(page:Int):=IntWalk.i64_in _ Xf
 have t0:decide ((page:Int)<0)=false:=decide_eq_false Xf
 have t1:decide (p≤(page:Int))=false:=decide_eq_false Xf
 clear h hr
 go_in
 go_wp2_with fail
 refine HP.out.mono ?_
 rintro e w1 ⟨rfl,g1⟩
 have k2:=(HC.out.mono g1).cell 2
 have G1:Hid (Gr w w1):=G0.out.trans g1
 clear g1
 go_wp2_with fail
 go_ret
 exact⟨rfl,G1.out⟩
def iF (l q:Int):Array Value:=#[.string ⟨#[114,111,111,116]⟩,.int .i64 2,.string ⟨#[115,117,112,101,114]⟩,.int .i64 2,.string ⟨#[108,111,103]⟩,.int .i64 l,.string ⟨#[97,114,101,97]⟩,.int .i64 q]
theorem Ux (l q:Int):(iF l q).all (·.oneCell')=true:=by
 rw[Array.all_eq_true']
 intro v hv
 have :v∈(iF l q).toList:=Array.mem_toList_iff.2 hv
 simp only[iF,List.mem_cons,List.not_mem_nil,or_false] at this
 rcases this with h|h|h|h|h|h|h|h<;>subst h<;>rfl
theorem Hg:(Tryz.prog.info? 197).map (·.size)=some 8:=by kernel_rfl
theorem zO (a d l:Int) (w:World) (h:Geo a d l):Calls Tryz.prog 160 #[.agg #[.int .i64 a,.int .i64 d,.int .i64 l]] w fun e w'=>e= .returned (.agg (iF l (2*au a d l)))∧Gr w w':=by
 have hpl:=pgE a d l
 have HP:=Xh (fun wr=>jg a d l wr)
 generalize au a d l=p at *
 have w1:IntKind.i64.wrap (2*p)=2*p:=IntWalk.i64_in _ Xf
 clear h
 go_in
 go_upto_region 1 with fail
 have bG:Blk ((w.alloc (.cells #[.int .i64 a,.int .i64 d,.int .i64 l] 23)).alloc (.cells #[.string ⟨#[]⟩,.int .i64 0,.string ⟨#[]⟩,.int .i64 0,.string ⟨#[]⟩,.int .i64 0,.string ⟨#[]⟩,.int .i64 0] 197)) w.heap.size 23 [.int .i64 a,.int .i64 d,.int .i64 l]:=(Blk.new w _ _).alloc _
 have bP:Blk ((w.alloc (.cells #[.int .i64 a,.int .i64 d,.int .i64 l] 23)).alloc (.cells #[.string ⟨#[]⟩,.int .i64 0,.string ⟨#[]⟩,.int .i64 0,.string ⟨#[]⟩,.int .i64 0,.string ⟨#[]⟩,.int .i64 0] 197)) (w.heap.size+1) 197 [.string ⟨#[]⟩,.int .i64 0,.string ⟨#[]⟩,.int .i64 0,.string ⟨#[]⟩,.int .i64 0,.string ⟨#[]⟩,.int .i64 0]:=heap_alloc2_new w _ _
 have gg:Gr w ((w.alloc (.cells #[.int .i64 a,.int .i64 d,.int .i64 l] 23)).alloc (.cells #[.string ⟨#[]⟩,.int .i64 0,.string ⟨#[]⟩,.int .i64 0,.string ⟨#[]⟩,.int .i64 0,.string ⟨#[]⟩,.int .i64 0] 197)):=(Gr.alloc _ _).trans (Gr.alloc _ _)
 obtain⟨W,hW⟩:∃W,W=(w.alloc (.cells #[.int .i64 a,.int .i64 d,.int .i64 l] 23)).alloc (.cells #[.string ⟨#[]⟩,.int .i64 0,.string ⟨#[]⟩,.int .i64 0,.string ⟨#[]⟩,.int .i64 0,.string ⟨#[]⟩,.int .i64 0] 197):=⟨_,rfl⟩
 rw[←hW] at bG bP gg
 have HW:=Xh hW
 have BG:=Xh bG;have BP:=Xh bP;have GG:=Xh gg
 clear bG bP gg hW
 rw[←HW.out]
 refine wrG Xe [0,0,0,4,12,0,32,96,224,511,1023] [.p 0,.p 1,.p 2,.q 3,.p 4,.q 5,.c 6,.p 7,.p 8,.p 9,.s 10] Xe (trivial) ?_
 refine gP ?_
 refine gP ?_
 refine gP ?_
 refine gQ (fun _ hq=>(BG.out.mono (Xk hq)).cell 2) ?_
 refine gP ?_
 refine gQ (fun _ hq=>And.intro ((BG.out.mono (Xk hq)).cell 0) (And.intro ((BG.out.mono (Xk hq)).cell 1) ((BG.out.mono (Xk hq)).cell 2))) ?_
 refine gC ?_
 intro w4 g4 K hK
 refine (HP.out w4).mono ?_
 rintro e wn ⟨rfl,g5⟩
 refine hK _ _ g5 ?_;have G5:=Xh (((Gr.drew W).trans g4).trans g5);clear g4 g5 hK
 go_simp
 refine gP ?_
 refine gP ?_
 refine gP ?_
 refine dV rfl rfl ?_
 intro w6 g6 K hK
 have B6:=Xh (BP.out.mono (G5.out.trans g6))
 have G6:=Xh (GG.out.trans (G5.out.trans g6))
 refine wp_store_row 197 (.tmp 2) (.tmp 12) rfl (w.heap.size+1) (iF l (2*p)) rfl rfl 197 _ B6.out Hg rfl (Ux _ _) ?_
 refine hK _ _ ?_
 clear hK g6
 have HN:=Xh (setRow_heap w6 (w.heap.size+1) _ (iF l (2*p)) _ _ B6.out)
 have GN:Hid (Gr w (w6.setRow (w.heap.size+1) (iF l (2*p)))):=bRb G6.out (show w.heap.size≤w.heap.size+1 by omega) (iF l (2*p))
 obtain⟨w7,hw7⟩:∃w7,w7=w6.setRow (w.heap.size+1) (iF l (2*p)):=⟨_,rfl⟩
 rw[←hw7] at HN GN ⊢
 clear hw7
 refine wNi fun w8 g8=> ?_
 have B8:Blk w8 (w.heap.size+1) 197 (iF l (2*p)).toList:=(show Blk w7 _ _ (iF l (2*p)).toList from HN.out).mono g8
 have G8:Gr w w8:=GN.out.trans g8
 go_wp2_with fail
 exact bodyPost_ret (results_cell_row Tryz.results160 _ _ (w.heap.size+1) 197 _ (0,0) _ rfl B8 Tryz.underlying197 rfl Hg) rfl ⟨rfl,G8⟩
theorem Dc (l q:Int) (W:World):(Instr.index 197 (.agg (iF l q)) (.int .i64 0)).run Tryz.prog W= .ok (.agg #[.string ⟨#[114,111,111,116]⟩,.int .i64 2]) W:=by kernel_rfl
theorem Ch (l q:Int) (W:World):(Instr.index 197 (.agg (iF l q)) (.int .i64 1)).run Tryz.prog W= .ok (.agg #[.string ⟨#[115,117,112,101,114]⟩,.int .i64 2]) W:=by kernel_rfl
theorem OM (l q:Int) (W:World):(Instr.index 197 (.agg (iF l q)) (.int .i64 2)).run Tryz.prog W= .ok (.agg #[.string ⟨#[108,111,103]⟩,.int .i64 l]) W:=by kernel_rfl
theorem Oq (l q:Int) (W:World):(Instr.index 197 (.agg (iF l q)) (.int .i64 3)).run Tryz.prog W= .ok (.agg #[.string ⟨#[97,114,101,97]⟩,.int .i64 q]) W:=by kernel_rfl
def dS (a d l:Int):Int:=4+l+2*au a d l
theorem kX (a d l:Int) (w:World) (h:Geo a d l):Calls Tryz.prog 86 #[.agg #[.int .i64 a,.int .i64 d,.int .i64 l]] w fun e w'=>e= .returned (.int .i64 (dS a d l))∧Gr w w':=by
 have hpl:=pgE a d l
 obtain⟨h3,h4⟩:=h.l
 have HP:=Xh (fun wr=>zO a d l wr h)
 have HR:=Xh (gRa a d l (w.alloc (.cells #[.int .i64 a,.int .i64 d,.int .i64 l] 23)))
 rw[h.r] at HR
 unfold dS
 generalize au a d l=p at *
 have HC:Hid (Blk (w.alloc (.cells #[.int .i64 a,.int .i64 d,.int .i64 l] 23)) w.heap.size 23 [.int .i64 a,.int .i64 d,.int .i64 l]):=Blk.new w _ _
 have G0:Hid (Gr w (w.alloc (.cells #[.int .i64 a,.int .i64 d,.int .i64 l] 23))):=Gr.alloc _ _
 have hx0:=fun W=>Dc l (2*p) W
 have hx1:=fun W=>Ch l (2*p) W
 have hx2:=fun W=>OM l (2*p) W
 have hx3:=fun W=>Oq l (2*p) W
 obtain⟨X,hX⟩:∃X,X=iF l (2*p):=⟨_,rfl⟩
 rw[←hX] at HP hx0 hx1 hx2 hx3
 have w2:IntKind.i64.wrap (4+l)=4+l:=IntWalk.i64_in _ Xf
 have w3:IntKind.i64.wrap (4+l+2*p)=4+l+2*p:=IntWalk.i64_in _ Xf
 clear h hX
 go_in
 go_wp2_with fail
 refine HR.out.mono ?_
 rintro e w1 ⟨rfl,g1⟩
 have k0:=(HC.out.mono g1).cell 0
 have k1:=(HC.out.mono g1).cell 1
 have k2:=(HC.out.mono g1).cell 2
 have G1:Hid (Gr w w1):=G0.out.trans g1
 clear g1
 go_wp2_with fail
 refine (HP.out _).mono ?_
 rintro e w2 ⟨rfl,g2⟩
 have G2:Hid (Gr w w2):=G1.out.trans g2
 clear g2 k0 k1 k2
 go_wp2_with fail
 refine wp_loop_rounds 5 ?_
 rw[rounds_succ]
 go_wp2_with fail
 rw[rounds_succ]
 go_wp2_with fail
 rw[rounds_succ]
 go_wp2_with fail
 rw[rounds_succ]
 go_wp2_with fail
 rw[rounds_succ]
 go_wp2_with fail
 go_ret
 exact⟨rfl,G2.out.trans ((((Gr.alloc _ _).trans (Gr.alloc _ _)).trans (Gr.alloc _ _)).trans (Gr.alloc _ _))⟩
theorem E8 (a d l:Int) (w:World) (h:Geo a d l) (p:Nat) (hp:p<2):Calls Tryz.prog 290 #[.agg #[.int .i64 a,.int .i64 d,.int .i64 l],.int .i64 ((2+p:Nat):Int)] w fun e w'=>e= .returned (.tuple #[.string ⟨#[115,117,112,101,114]⟩,.int .i64 (p:Int)])∧Gr w w':=by
 have hpl:=pgE a d l
 obtain⟨h3,h4⟩:=h.l
 have HP:=Xh (fun wr=>zO a d l wr h)
 have HS:=Xh (kX a d l (w.alloc (.cells #[.int .i64 a,.int .i64 d,.int .i64 l] 23)) h)
 unfold dS at HS
 generalize au a d l=q at *
 have HC:Hid (Blk (w.alloc (.cells #[.int .i64 a,.int .i64 d,.int .i64 l] 23)) w.heap.size 23 [.int .i64 a,.int .i64 d,.int .i64 l]):=Blk.new w _ _
 have G0:Hid (Gr w (w.alloc (.cells #[.int .i64 a,.int .i64 d,.int .i64 l] 23))):=Gr.alloc _ _
 have hx0:=fun W=>Dc l (2*q) W
 have hx1:=fun W=>Ch l (2*q) W
 obtain⟨X,hX⟩:∃X,X=iF l (2*q):=⟨_,rfl⟩
 rw[←hX] at HP hx0 hx1
 obtain⟨r,hr⟩:∃r:Int,r=((2+p:Nat):Int):=⟨_,rfl⟩
 have hr2:r - 2=(p:Int):=by omega
 have t0:decide (r<0)=false:=decide_eq_false Xf
 have t1:decide (4+l+2*q≤r)=false:=decide_eq_false Xf
 have t2:decide ((2:Int)≤r)=true:=decide_eq_true Xf
 have t3:decide ((2:Int)≤(p:Int))=false:=decide_eq_false Xf
 have w1:IntKind.i64.wrap (r - 2)=(p:Int):=by rw[hr2];exact IntWalk.i64_in _ Xf
 rw[←hr]
 clear h hX hr hr2
 go_in
 go_wp2_with fail
 go_step3
 go_wp2_with fail
 refine HS.out.mono ?_
 rintro e w1 ⟨rfl,g1⟩
 have k0:=(HC.out.mono g1).cell 0
 have k1:=(HC.out.mono g1).cell 1
 have k2:=(HC.out.mono g1).cell 2
 have G1:Hid (Gr w w1):=G0.out.trans g1
 clear g1
 go_wp2_with fail
 go_step3
 go_wp2_with fail
 refine (HP.out _).mono ?_
 rintro e w2 ⟨rfl,g2⟩
 have G2:Hid (Gr w w2):=G1.out.trans g2
 clear g2 k0 k1 k2
 go_wp2_with fail
 refine wp_loop_rounds 2 ?_
 rw[rounds_succ]
 go_wp2_with fail
 rw[rounds_succ]
 go_wp2_with fail
 try rw[Exit.noGoto_ret]
 go_ret2
 exact⟨rfl,G2.out.trans ((Gr.alloc _ _).trans (Gr.alloc _ _))⟩
end
end Go.Proofs.YtipdlnejmcmbbaaGreatDoor
