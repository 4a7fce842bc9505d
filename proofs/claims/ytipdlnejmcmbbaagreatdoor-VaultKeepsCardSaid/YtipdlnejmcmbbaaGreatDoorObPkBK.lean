/- Own texts, one behind the other. No condition. -/
import Derived.Test.YtipdlnejmcmbbaaGreatDoorObPkBJ
set_option linter.unusedVariables false
set_option maxRecDepth 100000
set_option maxHeartbeats 8000000
set_option linter.unusedSimpArgs false
namespace Go.Proofs.YtipdlnejmcmbbaaGreatDoor
section
open Go.RowKit
section
variable {w0 w w':World} {L:Pl} {a d l:Int} {N:Nat} {m m':Mc} {n n':Nat} {x:Spr} {vl vk:Value} {next:Nat} {due:Bool} {pt ps b c:Nat} {R:List aj} {K:Nat→List UInt8} {cs:Nat→Option (List UInt8×List UInt8)}
theorem TrI.leaf (hI:TrI a d l m.T (R.map aj.l) K cs) {p:Nat} (hp:av a d l≤p) (hq:(p:Int)<au a d l):lI m.T (K p) ((R.map aj.l).getD p []) (cs (p - (av a d l).toNat)):=by
 have :=hI.ok p Xf
 unfold iZ at this
 rwa[if_neg Xf] at this
theorem lI.key {T:List Nd} {k b:List UInt8} {c:Option (List UInt8×List UInt8)} (h:lI T k b c):((k.length:Int)==0)=c.isNone:=by
 cases c with
 |none=>rw[h.1];rfl
 |some x=>obtain⟨hd,v⟩:=x;obtain⟨z,h1,_⟩:=h;rw[h1];rfl
theorem PU {p:Nat} (hp:av a d l≤p) (hq:(p:Int)<au a d l):jG a d l p=(p:Int) - av a d l:=by
 unfold jG
 unfold au at hq
 rw[if_pos ⟨Xf,hp,hq⟩]
theorem Qi {p:Nat} (hp:(p:Int)<av a d l):jG a d l p= -1:=by
 unfold jG
 rw[if_neg Xf]
theorem uq (h:TrG w0 L a d l N m n x vl next due vk pt ps b c R w) (hI:TrI a d l m.T (R.map aj.l) K cs) (hU:U8 w) (p:Nat) (hp:av a d l≤p) (hpN:p<N) (A:Option Addr) (kn kc:Nat) (hb:Bs w A kn kc (K p)):
 Calls Tryz.prog 155 #[.pointer (some ⟨pt,0,none⟩),.int .i64 (p:Int),.slice A kn kc] w fun e w'=>e= .returned (.bool true)∧Gr w w':=by
 have hq:(p:Int)<au a d l:=by have :=h.hN;omega
 have hl:=hI.leaf hp hq
 have HPG:=Xh (h.page p hpN)
 have HSL:=Xh (fun wr=>rX a d l p wr)
 rw[PU hp hq] at HSL
 obtain⟨sl,hsl⟩:∃sl:Nat,(p:Int) - av a d l=sl:=⟨_,(Int.toNat_of_nonneg Xf).symm⟩
 rw[hsl] at HSL
 have hkl:=hl.key
 rw[hb.len] at hkl
 have hee:=yJ hl
 have HDL:=Xh (fun wr (g:Gr w wr) A n cc (q:Bs wr A n cc _)=>mI hl (by have :=h.ok.t;have :=h.n9;omega) q (hU.mono g))
 generalize (cs (p - (av a d l).toNat))=cv at *
 have HH:=Xh h;have HB:=Xh hb
 obtain⟨q,hq2⟩:∃q,q=cv.isNone:=⟨_,rfl⟩
 rw[←hq2] at hkl hee
 have HQ:=Xh hq2
 obtain⟨s,hs⟩:∃s:ByteArray,s=⟨(hdL cv).toArray⟩:=⟨_,rfl⟩
 unfold wD at HDL
 rw[←hs] at hee HDL
 have tq:(q !=q)=false:=by simp
 obtain⟨s1,s2,s3,s4,s5,s6⟩:=h.cells
 have h0:decide ((0:Int)≤(sl:Int))=true:=decide_eq_true Xf
 clear h hI hU hl hb hs hq2 hq hsl hpN hp
 go_in
 go_wp2_with fail
 refine HPG.out.mono ?_
 rintro e w1 ⟨v1,rfl,o1⟩
 obtain⟨A1,c1,rfl,b1⟩:=o1.slice
 have G1:=Xh (show Gr w w1 from o1.below)
 have B1:=Xh (show Bs w1 A1 _ c1 _ from b1)
 clear s1 s2 s3 s4 s5 s6 o1 b1
 generalize ((R.map aj.l).getD p []).length=bn at *
 obtain⟨s1,s2,s3,s4,s5,s6⟩:=(HH.out.gr G1.out).cells
 go_wp2_with fail
 refine (HSL.out w1).mono ?_
 rintro e w2 ⟨rfl,g2⟩
 have G2:=Xh (G1.out.trans (show Gr w1 w2 from g2))
 have HD2:=Xh (HDL.out w2 G2.out A1 bn c1 (B1.out.mono g2))
 clear s1 s2 s3 s4 s5 s6 g2
 go_wp2_with fail
 refine HD2.out.mono ?_
 rintro e w3 ⟨A3,n3,c3,z,rfl,b3,h3,g3,ho⟩
 have G3:=Xh (G2.out.trans g3)
 have H3:=HH.out.gr G3.out
 have HOP:=Xh (H3.ms.Tj H3.ok H3.n9 A A3 kn kc n3 c3 (K p) z (HB.out.mono G3.out) b3 Xf)
 obtain⟨s1,s2,s3,s4,s5,s6⟩:=H3.cells
 have HO:=Xh ho
 clear H3 b3 h3 g3 ho
 go_wp2_with fail
 refine HOP.out.mono ?_
 rintro e w4 ⟨A4,n4,c4,rfl,_,g4⟩
 have G4:=Xh (G3.out.trans g4)
 have HZ:Hid (q=false→(eP m.T (K p) z).isSome=true):=fun hq=>by
  have :=HQ.out
  cases cv with
  |none=>rw[hq] at this;cases this
  |some y=>rw[HO.out y.1 y.2 rfl];rfl
 clear s1 s2 s3 s4 s5 s6 g4 HOP
 generalize (eP m.T (K p) z).isSome=r at *
 cases q
 · obtain rfl:=HZ.out rfl
   go_wp2_with fail
   go_ret
   exact⟨rfl,G4.out⟩
 · cases r
   · go_wp2_with fail
     go_ret
     exact⟨rfl,G4.out⟩
   · go_wp2_with fail
     go_ret
     exact⟨rfl,G4.out⟩
theorem zJ {p k:Nat} (g:Geo a d l) (hp:(p:Int)<av a d l) (hk:(k:Int)<a):lN a d l p k=((a.toNat*p+1+k:Nat):Int):=by
 obtain⟨x,y,rfl,rfl,_⟩:=g.nn
 unfold lN
 rw[if_pos ⟨Xf,hp,Xf,hk⟩]
 rfl
theorem Es (h:TrG w0 L a d l N m n x vl next due vk pt ps b c R w) (hI:TrI a d l m.T (R.map aj.l) K cs) (p:Nat) (hp:(p:Int)<av a d l) (hpN:p<N) (A:Option Addr) (kn kc:Nat) (hb:Bs w A kn kc (K p))
 (HS:∀k:Nat,(k:Int)<a→∀wr,Gr w wr→∀A kn kc,Bs wr A kn kc (K (a.toNat*p+1+k))→Calls Tryz.prog 155 #[.pointer (some ⟨pt,0,none⟩),.int .i64 ((a.toNat*p+1+k:Nat):Int),.slice A kn kc] wr fun e w'=>e= .returned (.bool true)∧Gr wr w'):
 Calls Tryz.prog 155 #[.pointer (some ⟨pt,0,none⟩),.int .i64 (p:Int),.slice A kn kc] w fun e w'=>e= .returned (.bool true)∧Gr w w':=by
 have hT:m.T.length≤100000:=by have :=h.ok.t;have :=h.n9;omega
 have hpn:p<(av a d l).toNat:=by omega
 obtain⟨rows,hl,hQ,hD,hro,hri⟩:=(hI.ok p (by have :=h.hN;omega)).rows hpn hT
 obtain⟨X,hX⟩:∃X:Nat,a=X:=by obtain⟨X,_,e,_⟩:=h.g.nn;exact⟨X,e⟩
 have ha:a.toNat=X:=by rw[hX];rfl
 rw[ha] at hl hri HS
 have HPG:=Xh (h.page p hpN)
 rw[show (R.map aj.l).getD p []=dI rows from hQ] at HPG
 have HSL:=Xh (fun wr=>rX a d l p wr)
 rw[Qi hp] at HSL
 have HDC:=Xh (fun wr A m c (q:Bs wr A m c _)=>qM (kb:=L.kb) h.g X hX.symm A m c rows hl hro q)
 have HCH:=Xh (fun k (hk:(k:Nat)<X) wr=>Df a d l p k wr)
 have hce:∀k,k<X→lN a d l p k=((X*p+1+k:Nat):Int):=fun k hk=>by
  have :=zJ (k:=k) h.g hp Xf
  rwa[ha] at this
 have HCE:=Xh hce
 have HOP:=Xh (fun wr (g:Gr w wr) B n c z (hz:Bs wr B n c z) (hn:n≤60000)=>(h.gr g).ms.Tj h.ok h.n9 A B kn kc n c (K p) z (hb.mono g) hz hn)
 have HEM:=Xh (fun wr A n c=>jr A n c wr)
 have HKN:Hid (kn=0→dI rows=[]):=fun h0=>by
  unfold dI
  rw[if_neg]
  rw[List.any_eq_true]
  rintro⟨r,hr,hr0⟩
  obtain⟨j,hj⟩:=List.mem_iff_getElem?.1 hr
  rcases hri j r hj with⟨_,e⟩| ⟨_,e,_⟩
  · rw[e] at hr0;simp at hr0
  · rw[hb.len,h0] at e;cases e
 have hxx:((kn:Int)==0 && !decide ((dI rows).length=0))=false:=by
  by_cases h0:kn=0
  · rw[HKN.out h0];simp
  · rw[show ((kn:Int)==0)=false by simpa using h0];rfl
 have HXX:=Xh hxx
 have HH:=Xh h;have HRI:=Xh hri;have HS':=Xh HS;have HT:=Xh hT
 have HL:=Xh hl
 have HXA:=Xh hX
 have hX4:X≤4:=by obtain⟨_,_,e,_,_,e4,_⟩:=h.g.nn;omega
 obtain⟨s1,s2,s3,s4,s5,s6⟩:=h.cells
 clear h hI hb hl hQ hD hro hri HS hX ha hce hT hpn hp hxx HKN hpN
 go_in
 go_wp2_with fail
 refine HPG.out.mono ?_
 rintro e w1 ⟨v1,rfl,o1⟩
 obtain⟨A1,c1,rfl,b1⟩:=o1.slice
 have G1:=Xh (show Gr w w1 from o1.below)
 have B1:=Xh (show Bs w1 A1 _ c1 _ from b1)
 clear s1 s2 s3 s4 s5 s6 o1 b1
 generalize (dI rows).length=bn at *
 obtain⟨s1,s2,s3,s4,s5,s6⟩:=(HH.out.gr G1.out).cells
 go_wp2_with fail
 refine (HSL.out w1).mono ?_
 rintro e w2 ⟨rfl,g2⟩
 have G2:=Xh (G1.out.trans (show Gr w1 w2 from g2))
 have HD2:=Xh (HDC.out w2 A1 bn c1 (B1.out.mono g2))
 clear s1 s2 s3 s4 s5 s6 g2
 obtain⟨s1,s2,s3,s4,s5,s6⟩:=(HH.out.gr G2.out).cells
 go_wp2_with fail
 refine HD2.out.mono ?_
 rintro e w3 ⟨bo,RR,rfl,g3,_,p3,m3⟩
 have G3:=Xh (G2.out.trans g3)
 have P3:=Xh p3
 have M3:=Xh m3
 have HEM3:=Xh (HEM.out w3 A1 bn c1)
 clear s1 s2 s3 s4 s5 s6 g3 m3 p3
 obtain⟨q1,hq1⟩:∃q1,q1=((kn:Int)==0):=⟨_,rfl⟩
 obtain⟨q2,hq2⟩:∃q2,q2=decide (bn=0):=⟨_,rfl⟩
 rw[←hq2] at HEM3 HXX
 rw[←hq1] at HXX
 have hq1':=hq1.symm
 clear hq1 hq2
 go_upto_region 9 with fail
 go_cut [84] (fun v wx=>v= .bool false∧wx=w3)
 case first=>
  cases q1
  · go_wp2_with fail
    go_meet
    exact⟨rfl,rfl⟩
  · obtain rfl:q2=true:=by have :=HXX.out;simpa using this
    go_wp2_with fail
    refine HEM3.out.mono ?_
    rintro e wd ⟨rfl,hwd⟩
    subst hwd
    go_wp2_with fail
    go_meet
    exact⟨rfl,rfl⟩
 case rest=>
 obtain⟨rfl,rfl⟩:=hcut
 clear HXX HEM3 hq1'
 have hRR:=P3.out.len
 go_upto_region 11 with fail
 go_wp2_with fail
 go_loopw [87] (fun i wr=>∃k:Nat,k≤X∧i= .int .i64 (k:Int)∧Gr wc wr) (fun i _=>X - (Go.RowKit.intOf i).toNat)
 case atStart=>exact⟨0,Nat.zero_le _,rfl,Gr.refl _⟩
 case round=>
  obtain⟨k,hk,rfl,g4⟩:=hrel
  have G4:=Xh (G3.out.trans g4)
  have P4:=Xh (P3.out.mono g4)
  have G34:=Xh g4
  clear g4
  by_cases hlt:k<X
  · have t:decide ((k:Int)<(X:Int))=true:=decide_eq_true Xf
    have wk:IntKind.i64.wrap ((k:Int)+1)=(k:Int)+1:=IntWalk.i64_in _ Xf
    obtain⟨r,hr⟩:∃r,RR[k]?=some r:=⟨_,List.getElem?_eq_getElem Xf⟩
    have hrl:rows[k]?=some r.l:=by rw[←M3.out,List.getElem?_map,hr];rfl
    have HRW:=Xh (HRI.out k r.l hrl)
    have HQB:=Xh (P4.out.q r (List.mem_of_getElem? hr))
    have hc:=P4.out.cell hr
    obtain⟨ra,rn,rc,rl⟩:=r
    have c1:wr.cell? ⟨bo,k,none⟩=some (.slice ra rn rc):=hc
    obtain⟨s1,s2,s3,s4,s5,s6⟩:=(HH.out.gr G4.out).cells
    have HSK:=Xh (fun wx (g:Gr wr wx) A n c hb=>HS'.out k (by rw[HXA.out];omega) wx (G4.out.trans g) A n c hb)
    have HCK:=Xh (HCH.out k hlt)
    rw[HCE.out k hlt] at HCK
    have HPQ:=Xh HOP.out
    clear hc hr hrl
    generalize X*p+1+k=q at *
    go_upto_if 94 with fail
    go_cut [17] (fun v wx=>∃A n c,v= .slice A n c∧Bs wx A n c (K q)∧Gr wr wx)
    case first=>
     rcases HRW.out with⟨hkq,e⟩| ⟨h32,_,hS⟩
     · obtain rfl:rn=0:=by have :=HQB.out.b.len;rw[e] at this;simpa using this.symm
       have HKQ:=Xh hkq
       clear hkq e
       go_wp2_with fail
       go_meet
       exact⟨none,0,0,rfl,by rw[HKQ.out];exact Sl.nil _ _,Gr.refl _⟩
     · have hz:=hS.len HT.out
       have ho:=hS.opn HT.out Xf
       have hrn:rn=80:=by have h1:rl.length=rn:=HQB.out.b.len;have h2:rl.length=_:=hz;omega
       subst hrn
       have HO5:=Xh (HOP.out wr G4.out ra 80 rc rl HQB.out.b Xg)
       rw[ho] at HO5
       have H32:=Xh h32
       clear hz ho hS h32
       go_wp2_with fail
       refine HO5.out.mono ?_
       rintro e w6 ⟨A6,n6,c6,rfl,b6,g6⟩
       obtain rfl:n6=32:=by have h1:(K q).length=n6:=b6.len;exact h1.symm.trans H32.out
       have B6:=Xh b6
       have G6:=Xh g6
       clear b6 g6 s1 s2 s3 s4 s5 s6
       go_wp2_with fail
       go_meet
       exact⟨A6,32,c6,rfl,B6.out,G6.out⟩
    case rest=>
    obtain⟨A6,n6,c6,rfl,b6,g6⟩:=hcut
    have B6:=Xh b6
    have G6:=Xh (G4.out.trans g6)
    have G46:=Xh g6
    clear b6 g6 c1 s1 s2 s3 s4 s5 s6
    obtain⟨s1,s2,s3,s4,s5,s6⟩:=(HH.out.gr G6.out).cells
    go_wp2_with fail
    refine (HCK.out _).mono ?_
    rintro e w7 ⟨rfl,g7⟩
    have HS7:=Xh (HSK.out w7 (G46.out.trans (show Gr _ w7 from g7)) A6 n6 c6 (B6.out.mono g7))
    have G37:=Xh (G34.out.trans (G46.out.trans (show Gr _ w7 from g7)))
    clear s1 s2 s3 s4 s5 s6 g7
    go_wp2_with fail
    refine HS7.out.mono ?_
    rintro e w8 ⟨rfl,g8⟩
    have G38:=Xh (G37.out.trans g8)
    clear g8
    go_wp2_with fail
    go_roundw
    case rel=>exact⟨k+1,Xf,by go_num,G38.out⟩
    case measure=>simp[Go.RowKit.intOf];omega
  · obtain rfl:X=k:=by omega
    have t:decide ((X:Int)<(X:Int))=false:=decide_eq_false Xf
    go_wp2_with fail
    go_ret
    exact⟨rfl,G4.out⟩
theorem Nv:∀(f:Nat) (p:Nat) (w:World) (A:Option Addr) (kn kc:Nat),TrG w0 L a d l N m n x vl next due vk pt ps b c R w→TrI a d l m.T (R.map aj.l) K cs→U8 w→p<N→(∀q,Sub a.toNat p q→(q:Int)<av a d l→(upL a.toNat q).length<(upL a.toNat p).length+f)→Bs w A kn kc (K p)→
 Calls Tryz.prog 155 #[.pointer (some ⟨pt,0,none⟩),.int .i64 (p:Int),.slice A kn kc] w fun e w'=>e= .returned (.bool true)∧Gr w w':=by
 intro f
 induction f with
 |zero=>
  intro p w A kn kc h hI hU hp hf hb
  refine uq h hI hU p ?_ hp A kn kc hb
  by_cases hn:(p:Int)<av a d l
  · exact absurd (hf p (dY _ _) hn) Xf
  · omega
 |succ f ih=>
  intro p w A kn kc h hI hU hp hf hb
  by_cases hn:(p:Int)<av a d l
  · refine Es h hI p hn hp A kn kc hb (fun k hk wr g A kn kc hb=>ih _ wr A kn kc (h.gr g) hI (hU.mono g) ?_ (fun q hq hqn=> ?_) hb)
    · obtain⟨X,y,rfl,rfl,h1,_,_,_,e1,_,e3,_⟩:=h.g.nn
      have :=h.hN
      rw[e3] at this
      rw[e1] at hn
      have :=oN (a:=X) (k:=k) (p:=p) (NN:=ndN X y) (q:=0) Xf Xf
      rw[Int.toNat_natCast]
      omega
    · have h1:=hf q (kT Xf hq) hqn
      have h2:=Pe (a:=a.toNat) (p:=p) (k:=k) Xf
      omega
  · exact uq h hI hU p Xf hp A kn kc hb
theorem JM {a d l:Int} (g:Geo a d l) {q:Nat} (hq:(q:Int)<av a d l):(upL a.toNat q).length<(upL a.toNat 0).length+d.toNat:=by
 obtain⟨x,y,rfl,rfl,h1,h2,h3,h4,e1,_⟩:=g.nn
 rw[e1] at hq
 have hp:q<pgN x y:=by unfold pgN;omega
 obtain⟨k1,k2,k3,_⟩:=zx (Cy h1 h2 h3 h4 hp)
 rw[Int.toNat_natCast,Int.toNat_natCast,k1,lY]
 have :¬(lW x q).1=y:=fun e=>by have :=k3.1 e;omega
 simp only[List.length_cons,List.length_nil]
 omega
theorem Ph {A:Option Addr} {cc:Nat} (h:TrG w0 L a d l N m n x vl next due (.slice A 32 cc) pt ps b c R w) (hI:TrI a d l m.T (R.map aj.l) K cs) (hU:U8 w) (hb:Bs w A 32 cc (K 0)):
 Calls Tryz.prog 81 #[.pointer (some ⟨pt,0,none⟩)] w fun e w'=>e= .returned (.int .i64 0)∧Gr w w':=by
 have HS:=Xh (Nv d.toNat 0 w A 32 cc h hI hU (by obtain⟨X,y,_,_,_,_,_,_,_,_,e3,_⟩:=h.g.nn;have :=h.hN;omega) (fun q _ hq=>JM h.g hq) hb)
 obtain⟨s1,s2,s3,s4,s5,s6⟩:=h.cells
 clear h hI hU hb
 go_in
 go_wp2_with fail
 refine HS.out.mono ?_
 rintro e w1 ⟨rfl,g1⟩
 have G1:=Xh g1
 clear g1
 go_wp2_with fail
 go_ret
 exact⟨rfl,G1.out⟩
end
end
end Go.Proofs.YtipdlnejmcmbbaaGreatDoor
