/- Own texts, one behind the other. No condition. -/
import Derived.Test.YtipdlnejmcmbbaaGreatDoorObPkAN
import Derived.Test.YtipdlnejmcmbbaaGreatDoorObPkAO
set_option linter.unusedVariables false
set_option maxRecDepth 100000
set_option maxHeartbeats 8000000
set_option linter.unusedSimpArgs false
namespace Go.Proofs.YtipdlnejmcmbbaaGreatDoor
section
open Go.RowKit
structure Mc where
 T:List Nd
 S:List (List UInt8)
 d:Dk
structure Pl where
 p:Nat
 g:Nat
 bm:Nat
 bs:Nat
 dp:Nat
 kb:Nat
def MSt (w0:World) (L:Pl) (m:Mc) (W:World):Prop:=MS w0 L.p L.g L.bm L.bs L.dp L.kb m.T m.S m.d W
structure Mc.Ok (m:Mc) (n:Nat):Prop where
 t:m.T.length≤n
 s:m.S.length≤n
 c:m.d.calls≤n
 a:m.d.all+m.d.pend.length≤n
 k:m.d.kept.length≤1024
 f1: -1≤m.d.fuse
 f2:m.d.fuse≤9223372036854775807
 z:SzT m.T
theorem Mc.Ok.le {m:Mc} {n k:Nat} (h:m.Ok n) (hk:n≤k):m.Ok k:=⟨Nat.le_trans h.t hk,Nat.le_trans h.s hk,Nat.le_trans h.c hk,Nat.le_trans h.a hk,h.k,h.f1,h.f2,h.z⟩
theorem Mc.Ok.small {m:Mc} {n:Nat} (h:m.Ok n) (hn:n≤100000):m.d.small:=⟨by have :=h.c;omega,by have :=h.a;omega,by have :=h.a;omega,h.k,h.f1,h.f2⟩
def jX (w0 w:World) (L:Pl) (r:Mc×Int) (e:Ending) (w':World):Prop:=e= .returned (.int .i64 r.2)∧MSt w0 L r.1 w'∧KQ L.kb w w'
def Mc.write (m:Mc) (place:Nat) (l:List UInt8):Mc×Int:=if m.d.down then (m,12) else ({m with d:=(m.d.write place l).1},(m.d.write place l).2)
def Mc.flush (m:Mc):Mc×Int:=if m.d.down then (m,12) else ({m with d:=m.d.flush.1},m.d.flush.2)
def Mc.sum (m:Mc) (b:List UInt8):Mc:={m with S:=r9 m.S b}
theorem oL (d:Dk):d.bB.1.kept=d.kept∧d.bB.1.pend=d.pend∧d.bB.1.all=d.all∧d.bB.1.calls=d.calls+1∧(-1≤d.fuse→ -1≤d.bB.1.fuse)∧d.bB.1.fuse≤d.fuse:=by
 unfold Dk.bB
 split
 · exact⟨rfl,rfl,rfl,rfl,id,Int.le_refl _⟩
 · split
   · exact⟨rfl,rfl,rfl,rfl,fun _=>by show -1≤d.fuse - 1;omega,by show d.fuse - 1≤d.fuse;omega⟩
   · exact⟨rfl,rfl,rfl,rfl,id,Int.le_refl _⟩
theorem Mc.Ok.write {m:Mc} {n:Nat} (h:m.Ok n) (place:Nat) (l:List UInt8):(m.write place l).1.Ok (n+1):=by
 unfold Mc.write
 split
 · exact h.le Xf
 · obtain⟨h1,h2,h3,h4,h5,h6⟩:=oL (m.d.pushed place l)
   have a:=h.a;have c:=h.c
   refine⟨Nat.le_succ_of_le h.t,Nat.le_succ_of_le h.s,?_,?_,?_,h5 h.f1,Int.le_trans h6 h.f2,h.z⟩
   · show (m.d.pushed place l).bB.1.calls≤n+1
     rw[h4];show m.d.calls+1≤n+1;omega
   · show (m.d.pushed place l).bB.1.all+(m.d.pushed place l).bB.1.pend.length≤n+1
     rw[h3,h2];show m.d.all+(m.d.pend++ [(place,l)]).length≤n+1
     rw[List.length_append];simp;omega
   · show (m.d.pushed place l).bB.1.kept.length≤1024
     rw[h1];exact h.k
theorem Mc.Ok.flush {m:Mc} {n:Nat} (h:m.Ok n):m.flush.1.Ok (n+1):=by
 unfold Mc.flush
 split
 · exact h.le Xf
 · obtain⟨h1,h2,h3,h4,h5,h6⟩:=oL m.d
   have a:=h.a;have c:=h.c
   unfold Dk.flush
   split
   · obtain⟨k1,k2,k3,k4,k5,k6⟩:=lC m.d.pend m.d.bB.1
     refine⟨Nat.le_succ_of_le h.t,Nat.le_succ_of_le h.s,?_,?_,?_,?_,?_,h.z⟩
     · show (m.d.bB.1.keeps m.d.pend).calls≤n+1
       rw[k5,h4];omega
     · show (m.d.bB.1.keeps m.d.pend).all+0≤n+1
       rw[k1,h3];omega
     · show (m.d.bB.1.keeps m.d.pend).kept.length≤1024
       rw[k2,h1];exact h.k
     · show -1≤(m.d.bB.1.keeps m.d.pend).fuse
       rw[k4];exact h5 h.f1
     · show (m.d.bB.1.keeps m.d.pend).fuse≤_
       rw[k4];exact Int.le_trans h6 h.f2
   · refine⟨Nat.le_succ_of_le h.t,Nat.le_succ_of_le h.s,?_,?_,?_,h5 h.f1,Int.le_trans h6 h.f2,h.z⟩
     · show m.d.bB.1.calls≤n+1
       rw[h4];omega
     · show m.d.bB.1.all+m.d.bB.1.pend.length≤n+1
       rw[h3,h2];omega
     · show m.d.bB.1.kept.length≤1024
       rw[h1];exact h.k
theorem Ul (S:List (List UInt8)) (b:List UInt8):(r9 S b).length≤S.length+1:=by
 unfold r9
 split
 · omega
 · rw[List.length_append];simp
theorem Mc.Ok.sum {m:Mc} {n:Nat} (h:m.Ok n) (b:List UInt8):(m.sum b).Ok (n+1):=by
 have :=Ul m.S b;have s:=h.s
 exact⟨Nat.le_succ_of_le h.t,by show (r9 m.S b).length≤n+1;omega,Nat.le_succ_of_le h.c,Nat.le_succ_of_le h.a,h.k,h.f1,h.f2,h.z⟩
section
variable {w0 w w':World} {L:Pl} {m:Mc} {n:Nat}
theorem MSt.mono (h:MSt w0 L m w) (g:Gr w w'):MSt w0 L m w':=MS.mono h g
theorem MSt.below (h:MSt w0 L m w):Below w0.heap.size w0 w:=MS.below h
theorem MSt.size (h:MSt w0 L m w):Calls Tryz.prog 85 #[.pointer (some ⟨L.dp,0,none⟩)] w fun e w'=>e= .returned (.int .i64 (m.d.kept.length:Int))∧w=w':=by
 obtain⟨vP,vA,hd⟩:=h.dk
 exact Gv hd
theorem BH {vP vA:Value} {dp kb:Nat} {d:Dk} (h:DkM w0 w dp kb vP vA d) (hd:d.down=true) (place:Int) (A:Option Addr) (n c:Nat):
 Calls Tryz.prog 169 #[.pointer (some ⟨dp,0,none⟩),.int .i64 place,.slice A n c] w fun e w'=>e= .returned (.int .i64 12)∧Gr w w':=by
 have HD:=Xh (nZ h)
 rw[hd] at HD
 clear h hd
 go_in
 go_wp2_with fail
 refine HD.out.mono ?_
 rintro e wd ⟨rfl,hwd⟩
 subst hwd
 go_wp2_with fail
 go_ret
 exact⟨rfl,Gr.refl _⟩
theorem Bj {vP vA:Value} {dp kb:Nat} {d:Dk} (h:DkM w0 w dp kb vP vA d) (hd:d.down=true):
 Calls Tryz.prog 170 #[.pointer (some ⟨dp,0,none⟩)] w fun e w'=>e= .returned (.int .i64 12)∧Gr w w':=by
 have c5:w.cell? ⟨dp,5,none⟩=some (.bool true):=by rw[h.c5,hd]
 clear h hd
 go_in
 go_wp2_with fail
 go_ret
 exact⟨rfl,Gr.refl _⟩
theorem MSt.write (h:MSt w0 L m w) (ho:m.Ok n) (hn:n≤99999) (place:Nat) (hp:place<m.d.kept.length) (A:Option Addr) (c:Nat) (l:List UInt8) (hb:QB L.kb w A 512 c l):
 Calls Tryz.prog 169 #[.pointer (some ⟨L.dp,0,none⟩),.int .i64 (place:Int),.slice A 512 c] w (jX w0 w L (m.write place l)):=by
 obtain⟨vP,vA,hd⟩:=h.dk
 unfold Mc.write
 by_cases hdn:m.d.down=true
 · rw[if_pos hdn]
   refine (BH hd hdn _ _ _ _).mono ?_
   rintro e w' ⟨rfl,g⟩
   exact⟨rfl,h.mono g,KQ.gr g⟩
 · rw[if_neg hdn]
   have hs2:(m.d.pushed place l).small:=by
    obtain⟨s1,s2,s3,s4⟩:=ho.small Xf
    refine⟨s1,s2,?_,s4⟩
    show (m.d.pend++ [(place,l)]).length≤1000000
    have :=ho.a
    rw[List.length_append]
    show m.d.pend.length+1≤_
    omega
   refine (DV hd (ho.small Xf) (by simpa using hdn) place hp A c l hb hs2).mono ?_
   rintro e w' ⟨rfl,vP',h',c'⟩
   obtain⟨q1,q2⟩:=MS.disk h hd h' c'
   exact⟨rfl,q1,q2⟩
theorem MSt.flush (h:MSt w0 L m w) (ho:m.Ok n) (hn:n≤99999):
 Calls Tryz.prog 170 #[.pointer (some ⟨L.dp,0,none⟩)] w (jX w0 w L m.flush):=by
 obtain⟨vP,vA,hd⟩:=h.dk
 unfold Mc.flush
 by_cases hdn:m.d.down=true
 · rw[if_pos hdn]
   refine (Bj hd hdn).mono ?_
   rintro e w' ⟨rfl,g⟩
   exact⟨rfl,h.mono g,KQ.gr g⟩
 · rw[if_neg hdn]
   refine (DR hd (ho.small Xf) (by simpa using hdn)).mono ?_
   rintro e w' ⟨rfl,vP',vA',h',c'⟩
   obtain⟨q1,q2⟩:=MS.disk h hd h' c'
   exact⟨rfl,q1,q2⟩
theorem MSt.sums (h:MSt w0 L m w) (ho:m.Ok n) (hn:n≤90000) (A:Option Addr) (k c:Nat) (b:List UInt8) (hb:Bs w A k c b):
 Calls Tryz.prog 167 #[.pointer (some ⟨L.p,0,none⟩),.slice A k c] w fun e w'=>∃A' c',e= .returned (.slice A' 8 c')∧Bs w' A' 8 c' (jC (nU m.S b))∧MSt w0 L (m.sum b) w'∧KQ L.kb w w':=by
 refine (Sw h.sy.blk h.sm (by have :=ho.s;omega) A k c b hb).mono ?_
 rintro e w' ⟨A',c',rfl,h1,h2,h3⟩
 obtain⟨q1,q2⟩:=MS.sum h h2 h3
 exact⟨A',c',rfl,h1,q1,q2⟩
theorem MSt.check (h:MSt w0 L m w) (ho:m.Ok n) (hn:n≤90000) (A B:Option Addr) (k c k' c':Nat) (b s:List UInt8) (hb:Bs w A k c b) (hs:Bs w B k' c' s):
 Calls Tryz.prog 299 #[.pointer (some ⟨L.p,0,none⟩),.slice A k c,.slice B k' c'] w fun e w'=>e= .returned (.bool (mO m.S b s))∧Gr w w':=
 MF h.sy.blk h.sm (by have :=ho.s;omega) A B k c k' c' b s hb hs
theorem MSt.read (h:MSt w0 L m w) (ho:m.Ok n) (hn:n≤99999) (hd:m.d.down=false) (hp:m.d.pend=[]) (place:Nat) (l:List UInt8) (hl:m.d.kept[place]?=some l):
 Calls Tryz.prog 236 #[.pointer (some ⟨L.dp,0,none⟩),.int .i64 (place:Int)] w fun e w'=>∃A c,e= .returned (.tuple #[.slice A 512 c,.int .i64 0])∧QB L.kb w' A 512 c l∧Gr w w':=by
 obtain⟨vP,vA,hk⟩:=h.dk
 exact Ii hk (ho.small Xf) hd hp place l hl
theorem MSt.len (h:MSt w0 L m w) {l:List UInt8} (hl:l∈m.d.kept):l.length=512:=by
 obtain⟨vP,vA,hk⟩:=h.dk
 exact hk.k512 l hl
def tyA (t:TypeId):Prop:=t=66∨t=302∨tyM t
theorem MSt.off {S:Nat→Prop} (h:MSt w0 L m w) (T:Tch S w w') (hS:∀b,S b→w0.heap.size≤b) (hn:∀b,S b→∃t cs,Blk w b t cs∧¬tyA t):MSt w0 L m w':=by
 have key:∀b t cs,Blk w b t cs→tyA t→¬S b:=fun b t cs hb ht hs=>by
  obtain⟨t',cs',hb',hn'⟩:=hn b hs
  have :=bTy hb hb'
  subst this
  exact hn' ht
 obtain⟨es,ck,hm⟩:=h.sm.map
 have nbs:¬S L.bs:=fun hs=>by
  obtain⟨t,cs,hb,_⟩:=hn _ hs
  exact h.sm.iV _ _ hb
 obtain⟨vP,vA,hd⟩:=h.dk
 obtain⟨xs,ha⟩:=hd.all
 have sy:bF w0 w' L.p L.g L.bm L.bs m.T:=h.sy.off T hS h.nb hm (fun b hs=> .inl (by
  obtain⟨t,cs,hb,hn'⟩:=hn b hs
  refine⟨t,cs,hb,fun e=>hn' (.inl e),fun e=>hn' (.inr (.inr (.inl e))),fun e=>hn' (.inr (.inr (.inr (.inl e)))),fun e=>hn' (.inr (.inr (.inr (.inr (.inl e)))))⟩))
 refine⟨sy,h.sm.keep (T.keep _ h.sm.lt nbs),h.nb,h.ge,vP,vA,⟨hd.blk.tch T (key _ _ _ hd.blk (.inr (.inr (.inr (.inr (.inr (.inl rfl))))))),hd.kept.tch T (key _ _ _ hd.kept (.inr (.inl rfl))),hd.k512,hd.pend.tch T hS (fun b q=> ?_),hd.p512,⟨xs,ha.tch T hS (fun b q=> ?_)⟩,hd.gd,hd.gk⟩⟩
 · obtain⟨cs,z⟩:=hd.pend.aA q
   exact key _ _ _ z (.inr (.inr (.inr (.inr (.inr (.inr (.inl rfl)))))))
 · obtain⟨cs,z⟩:=ha.aA q
   exact key _ _ _ z (.inr (.inr (.inr (.inr (.inr (.inr (.inr rfl)))))))
theorem KQ.new {S:Nat→Prop} {kb:Nat} {w1:World} (k:KQ kb w w1) (T:Tch S w1 w') (hS:∀b,S b→w.heap.size≤b):KQ kb w w':=⟨Nat.le_trans k.1 T.size,fun b a t m' e h1 h2=>(T.keep b (fV (k.2 b a t m' e h1 h2)) (fun q=>by have :=hS b q;have :=fV e;omega)).trans (k.2 b a t m' e h1 h2)⟩
theorem Kept.tch {v v':Value} (h:Kept w w' v v') (hb:Below 0 w w'):Tch (fun b=>v.ownBlock=some b) w w':=⟨hb,fun b hl hn=>h.1 b hl hn⟩
theorem VN:¬tyA 5:=by unfold tyA tyM;decide
theorem MSt.grown {v v':Value} {e:TypeId} {s k k':Nat} {xs xs':List Value} (h:MSt w0 L m w) (o:Own w0 w e s v k xs) (he:¬tyA e) (o':Own w0 w' e s v' k' xs') (kp:Kept w w' v v'):MSt w0 L m w':=
 h.off (kp.tch (gJ o.below o'.below kp.2.1)) (fun b q=>o.ge q) (fun b q=>by
  obtain⟨cs,z⟩:=o.aA q
  exact⟨e,cs,z,he⟩)
end
end
section
open Go.RowKit
theorem V3 (A:Option Addr) (n c k:Nat) (h0:1≤k) (hk:k≤c) (w:World):(Instr.slice 43 (.slice A n c) none (some (.int .i64 (k:Int))) (some (.int .i64 (k:Int)))).run Tryz.prog w= .ok (.slice A k k) w:=by
 obtain⟨i,hi,hz,hsz,hby⟩:=info_parts (bC).info
 have hu:Tryz.prog.underlying 43=some (.slice (Tryz.prog.elem 43)):=by
  have :=(bC).und
  simp[Program.elem,this]
 have he:Tryz.prog.elem 43=5:=by simp[Program.elem,(bC).und]
 rw[run_slice_hm w 43 A n c hu .i64 .i64 k k Xf Xf Xf,he]
 simp[sizeOf,typeInfo,hi,Result.andThen,sliced]
 intro _
 cases A<;>simp[Addr.add]
def Tkr (w0 w:World) (p:Nat) (l:List UInt8):Prop:=∃A c,Blk w p 373 [.slice A l.length c]∧Bs w0 A l.length c l∧Gr w0 w∧w0.heap.size≤p
theorem Tkr.tch {w0 w w':World} {p:Nat} {l:List UInt8} (h:Tkr w0 w p l) {q:Nat} (g:Tch (fun b=>b=q) w w') (hq:w0.heap.size≤q) (hn:p≠q):Tkr w0 w' p l:=by
 obtain⟨A,c,h1,h2,h3,h4⟩:=h
 exact⟨A,c,h1.tch g hn,h2,g.below h3 h3.size (fun b e=>e▸hq),h4⟩
theorem l9 (p:Nat) (l:List UInt8) (size:Nat) (w0 w:World) (h:Tkr w0 w p l) (h1:1≤size) (h8:size≤8) (hl:size<l.length):
 Calls Tryz.prog 325 #[.pointer (some ⟨p,0,none⟩),.int .i64 (size:Int)] w fun e w'=>e= .returned (.int .u64 (cu (l.take size):Int))∧Tkr w0 w' p (l.drop size)∧Tch (fun b=>b=p) w w':=by
 obtain⟨A,c,hk,hs,hg,hp⟩:=h
 have hcap:=Sl.cap hs
 have c0:=hk.cell 0
 have hrun:=fun W=>V3 A l.length c size h1 Xf W
 obtain⟨A',hA',hrun2⟩:=og bC A l.length c size Xf hcap
 have hu:Bs w A size size (l.take size):=by
  have :=Sl.upto (hs.mono hg) (k:=size) Xf
  rw[←List.map_take] at this
  exact⟨this.1,Nat.le_refl _,Nat.le_trans Xf (show (8:Nat)≤_ by decide),this.2.2.2⟩
 have HG:=Xh (nN A size size (l.take size) w hu)
 have hgs:u7 (l.take size)=cu (l.take size):=by unfold u7;rw[if_pos (by rw[List.length_take];omega)]
 rw[hgs] at HG
 have f0:=Blk.free hk 0
 have HF:Hid (Bs w0 A' (l.length - size) (c - size) (l.drop size)):=by
  have :=Sl.from hs (k:=size) Xf (A':=A') (fun hlt b o e=>by have :=hA' hlt b o e;rwa[Nat.mul_one] at this)
  rw[←List.map_drop] at this
  exact this
 have T1:Hid (Tch (fun b=>b=p) w (w.setCell ⟨p,0,none⟩ (.slice A' (l.length - size) (c - size)))):=Tch.set ⟨p,0,none⟩ _ rfl
 have B1:Hid (Blk (w.setCell ⟨p,0,none⟩ (.slice A' (l.length - size) (c - size))) p 373 [.slice A' (l.length - size) (c - size)]):=Blk.set hk 0 _
 have HGR:=Xh hg;have HPP:=Xh hp
 obtain⟨n,hn⟩:∃n,n=l.length:=⟨_,rfl⟩
 have HN:=Xh hn
 rw[←hn] at hrun hrun2 c0 T1 B1 HF
 clear hs hk hu hgs hA' hn hg hp
 go_in
 go_wp2_with fail
 refine HG.out.mono ?_
 rintro e w1 ⟨rfl,h1⟩
 subst h1
 go_wp2_with fail
 go_ret
 have hl2:(l.drop size).length=n - size:=by rw[List.length_drop,HN.out]
 refine⟨rfl,⟨A',c - size,by rw[hl2];exact B1.out,by rw[hl2];exact HF.out,T1.out.below HGR.out HGR.out.size (fun b e=>e▸HPP.out),HPP.out⟩,T1.out⟩
theorem Tch.row {S:Nat→Prop} {w:World} {g:Nat} (hg:S g) (cs:Array Value):Tch S w (w.setRow g cs):=
 ⟨bRb (Below.refl 0 w) (Nat.zero_le _) cs,fun b _ hn=>setRow_other w g b _ (fun e=>hn (e▸hg))⟩
theorem jT:(Tryz.prog.info? 143).map (·.size)=some 5:=by kernel_rfl
theorem gH {fn:Func} {p u:Tmp} (h:fn.results=#[.cell p 143,.tmp u]) (tmps:Array Value) (w:World) (g:Nat) (t:TypeId) (cs:Array Value)
 (hp:tmps.getD p undef= .pointer (some ⟨g,0,none⟩)) (hg:w.heap[g]?=some (.cells cs t (0,0))) (hc:cs.size=5):
 (results fn tmps).run Tryz.prog w= .ok (.tuple #[.agg cs,tmps.getD u undef]) w:=by
 rw[results_cell_tmp h,hp]
 simp only[asAddr,Sem.run_pure,Result.andThen,run_loadVar_row w g t 143 cs (0,0) _ hg Tryz.underlying143 rfl (by rw[jT,hc])]
def dJ (x:Sec) (A:Option Addr) (c:Nat):Array Value:=#[.int .i64 (x.kind:Int),.int .u64 (x.life:Int),.int .i64 (x.seq:Int),.int .u64 (x.gen:Int),.slice A x.body.length c]
def dW:Sec:=⟨0,0,0,0,[]⟩
theorem kP (x:Sec) (A:Option Addr) (c:Nat):(dJ x A c).all (·.oneCell')=true:=by
 rw[Array.all_eq_true']
 intro v hv
 have :v∈[.int .i64 (x.kind:Int),.int .u64 (x.life:Int),.int .i64 (x.seq:Int),.int .u64 (x.gen:Int),.slice A x.body.length c]:=by simpa [dJ] using hv
 simp only[List.mem_cons,List.not_mem_nil,or_false] at this
 rcases this with h|h|h|h|h<;>subst h<;>rfl
theorem QT (A:Option Addr) (c:Nat) (b:List UInt8) (w:World) (hb:Bs w A 512 c b):
 Calls Tryz.prog 298 #[.slice A 512 c] w fun e w'=>∃x A' c',e= .returned (.tuple #[eH x A' c',.bool (kH b).isSome])∧x=(kH b).getD ⟨0,0,0,0,[]⟩∧Own w w' 5 1 (.slice A' x.body.length c') x.body.length (x.body.map u8c):=by
 have hl:b.length=512:=hb.len
 have HT0:Hid (Tkr w ((w.alloc (.cells #[.int .i64 0,.int .u64 0,.int .i64 0,.int .u64 0,.slice none 0 0] 143)).alloc (.cells #[.slice A 512 c] 373)) (w.heap.size+1) b):=by
  refine⟨A,c,?_,?_,(Gr.alloc _ _).trans (Gr.alloc _ _),Xf⟩
  · rw[hl];exact heap_alloc2_new w _ _
  · rw[hl];exact hb
 have KA:Hid (Blk ((w.alloc (.cells #[.int .i64 0,.int .u64 0,.int .i64 0,.int .u64 0,.slice none 0 0] 143)).alloc (.cells #[.slice A 512 c] 373)) w.heap.size 143 [.int .i64 0,.int .u64 0,.int .i64 0,.int .u64 0,.slice none 0 0]):=(Blk.new w 143 _).alloc _
 obtain⟨r0,hr0⟩:∃r0,r0=b:=⟨_,rfl⟩
 rw[←hr0] at HT0
 have h0:r0.length=512:=by rw[hr0];exact hl
 have HR0:=Xh hr0
 clear hr0
 obtain⟨r1,hr1⟩:∃r1,r1=r0.drop 1:=⟨_,rfl⟩
 have h1:r1.length=511:=by rw[hr1,List.length_drop];omega
 obtain⟨r2,hr2⟩:∃r2,r2=r1.drop 2:=⟨_,rfl⟩
 have h2:r2.length=509:=by rw[hr2,List.length_drop];omega
 obtain⟨r3,hr3⟩:∃r3,r3=r2.drop 8:=⟨_,rfl⟩
 have h3:r3.length=501:=by rw[hr3,List.length_drop];omega
 obtain⟨r4,hr4⟩:∃r4,r4=r3.drop 4:=⟨_,rfl⟩
 have h4:r4.length=497:=by rw[hr4,List.length_drop];omega
 obtain⟨r5,hr5⟩:∃r5,r5=r4.drop 8:=⟨_,rfl⟩
 have h5:r5.length=489:=by rw[hr5,List.length_drop];omega
 obtain⟨r6,hr6⟩:∃r6,r6=r5.drop 2:=⟨_,rfl⟩
 have h6:r6.length=487:=by rw[hr6,List.length_drop];omega
 obtain⟨n1,hn1⟩:∃n,n=cu (r0.take 1):=⟨_,rfl⟩
 obtain⟨nx,hnx⟩:∃n,n=cu (r1.take 2):=⟨_,rfl⟩
 obtain⟨n2,hn2⟩:∃n,n=cu (r2.take 8):=⟨_,rfl⟩
 obtain⟨n3,hn3⟩:∃n,n=cu (r3.take 4):=⟨_,rfl⟩
 obtain⟨n4,hn4⟩:∃n,n=cu (r4.take 8):=⟨_,rfl⟩
 obtain⟨n5,hn5⟩:∃n,n=cu (r5.take 2):=⟨_,rfl⟩
 have q1:n1<256:=by rw[hn1];have :=kU (r0.take 1);rw[List.length_take,Nat.min_eq_left Xf] at this;omega
 have q2:n2<18446744073709551616:=by rw[hn2];have :=kU (r2.take 8);rw[List.length_take,Nat.min_eq_left Xf] at this;omega
 have q3:n3<4294967296:=by rw[hn3];have :=kU (r3.take 4);rw[List.length_take,Nat.min_eq_left Xf] at this;omega
 have q5:n5<65536:=by rw[hn5];have :=kU (r5.take 2);rw[List.length_take,Nat.min_eq_left Xf] at this;omega
 have w1:IntKind.i64.wrap (n1:Int)=(n1:Int):=IntWalk.i64_in _ Xf
 have w3:IntKind.i64.wrap (n3:Int)=(n3:Int):=IntWalk.i64_in _ Xf
 have w5:IntKind.i64.wrap (n5:Int)=(n5:Int):=IntWalk.i64_in _ Xf
 have HRD:Hid (kH b=if n5 > 479 then none else some ⟨n1,n2,n3,n4,r6.take n5⟩):=by
  show _=_
  unfold kH
  rw[hn1,hn2,hn3,hn4,hn5,hr6,hr5,hr4,hr3,hr2,hr1,HR0.out]
  simp only[List.drop_drop,Nat.reduceAdd]
 have M1:=Xh hr1;have M2:=Xh hr2;have M3:=Xh hr3;have M4:=Xh hr4;have M5:=Xh hr5;have M6:=Xh hr6
 have N1:=Xh hn1.symm;have NX:=Xh hnx.symm;have N2:=Xh hn2.symm;have N3:=Xh hn3.symm;have N4:=Xh hn4.symm;have N5:=Xh hn5.symm
 clear hr1 hr2 hr3 hr4 hr5 hr6 hn1 hnx hn2 hn3 hn4 hn5 hl
 go_in
 go_wp2_with fail
 have HTK:=l9 (w.heap.size+1) r0 1 w _ (HT0).out Xf Xf Xf
 rw[(N1).out,←(M1).out] at HTK
 refine HTK.mono ?_
 clear HTK
 rintro e wa ⟨rfl,t1,T1⟩
 have HT1:=Xh t1
 have KB:=Xh (KA.out.tch T1 Xf)
 clear t1 T1 KA
 have KA:=KB
 clear KB
 have f0:=Blk.free KA.out 0
 have c0:=KA.out.cell 0
 have T9:Tch (fun b=>b=w.heap.size) (wa) ((wa).setCell ⟨w.heap.size,0,none⟩ (.int .i64 (n1:Int))):=Tch.set ⟨w.heap.size,0,none⟩ _ rfl
 have HS1:=Xh ((HT1).out.tch T9 (Nat.le_refl _) Xf)
 have KB:=Xh (Blk.set KA.out 0 (.int .i64 (n1:Int)))
 clear KA T9
 have KA:=KB
 clear KB
 go_wp2_with fail
 clear f0 c0
 obtain⟨wb,hwb⟩:∃wb,wb=wa.setCell ⟨w.heap.size,0,none⟩ (.int .i64 (n1:Int)):=⟨_,rfl⟩
 rw[←hwb] at HS1 KA ⊢
 clear hwb
 have HTK:=l9 (w.heap.size+1) r1 2 w _ (HS1).out Xf Xf Xf
 rw[(NX).out,←(M2).out] at HTK
 refine HTK.mono ?_
 clear HTK
 rintro e wc ⟨rfl,t1,T1⟩
 have HT2:=Xh t1
 have KB:=Xh (KA.out.tch T1 Xf)
 clear t1 T1 KA
 have KA:=KB
 clear KB
 go_wp2_with fail
 have HTK:=l9 (w.heap.size+1) r2 8 w _ (HT2).out Xf Xf Xf
 rw[(N2).out,←(M3).out] at HTK
 refine HTK.mono ?_
 clear HTK
 rintro e wd ⟨rfl,t1,T1⟩
 have HT3:=Xh t1
 have KB:=Xh (KA.out.tch T1 Xf)
 clear t1 T1 KA
 have KA:=KB
 clear KB
 go_wp2_with fail
 have HTK:=l9 (w.heap.size+1) r3 4 w _ (HT3).out Xf Xf Xf
 rw[(N3).out,←(M4).out] at HTK
 refine HTK.mono ?_
 clear HTK
 rintro e we ⟨rfl,t1,T1⟩
 have HT4:=Xh t1
 have KB:=Xh (KA.out.tch T1 Xf)
 clear t1 T1 KA
 have KA:=KB
 clear KB
 go_wp2_with fail
 have HTK:=l9 (w.heap.size+1) r4 8 w _ (HT4).out Xf Xf Xf
 rw[(N4).out,←(M5).out] at HTK
 refine HTK.mono ?_
 clear HTK
 rintro e wf ⟨rfl,t1,T1⟩
 have HT5:=Xh t1
 have KB:=Xh (KA.out.tch T1 Xf)
 clear t1 T1 KA
 have KA:=KB
 clear KB
 have f1:=Blk.free KA.out 1
 have c1:=KA.out.cell 1
 have T9:Tch (fun b=>b=w.heap.size) (wf) ((wf).setCell ⟨w.heap.size,1,none⟩ (.int .u64 (n2:Int))):=Tch.set ⟨w.heap.size,1,none⟩ _ rfl
 have HS5:=Xh ((HT5).out.tch T9 (Nat.le_refl _) Xf)
 have KB:=Xh (Blk.set KA.out 1 (.int .u64 (n2:Int)))
 clear KA T9
 have KA:=KB
 clear KB
 have f2:=Blk.free KA.out 2
 have c2:=KA.out.cell 2
 have T9:Tch (fun b=>b=w.heap.size) (wf.setCell ⟨w.heap.size,1,none⟩ (.int .u64 (n2:Int))) ((wf.setCell ⟨w.heap.size,1,none⟩ (.int .u64 (n2:Int))).setCell ⟨w.heap.size,2,none⟩ (.int .i64 (n3:Int))):=Tch.set ⟨w.heap.size,2,none⟩ _ rfl
 have HS6:=Xh ((HS5).out.tch T9 (Nat.le_refl _) Xf)
 have KB:=Xh (Blk.set KA.out 2 (.int .i64 (n3:Int)))
 clear KA T9
 have KA:=KB
 clear KB
 have f3:=Blk.free KA.out 3
 have c3:=KA.out.cell 3
 have T9:Tch (fun b=>b=w.heap.size) ((wf.setCell ⟨w.heap.size,1,none⟩ (.int .u64 (n2:Int))).setCell ⟨w.heap.size,2,none⟩ (.int .i64 (n3:Int))) (((wf.setCell ⟨w.heap.size,1,none⟩ (.int .u64 (n2:Int))).setCell ⟨w.heap.size,2,none⟩ (.int .i64 (n3:Int))).setCell ⟨w.heap.size,3,none⟩ (.int .u64 (n4:Int))):=Tch.set ⟨w.heap.size,3,none⟩ _ rfl
 have HS7:=Xh ((HS6).out.tch T9 (Nat.le_refl _) Xf)
 have KB:=Xh (Blk.set KA.out 3 (.int .u64 (n4:Int)))
 clear KA T9
 have KA:=KB
 clear KB
 go_wp2_with fail
 clear f1 c1 f2 c2 f3 c3
 obtain⟨wg,hwg⟩:∃wg,wg=(((wf.setCell ⟨w.heap.size,1,none⟩ (.int .u64 (n2:Int))).setCell ⟨w.heap.size,2,none⟩ (.int .i64 (n3:Int)))).setCell ⟨w.heap.size,3,none⟩ (.int .u64 (n4:Int)):=⟨_,rfl⟩
 rw[←hwg] at HS7 KA ⊢
 clear hwg HS5 HS6
 have HTK:=l9 (w.heap.size+1) r5 2 w _ (HS7).out Xf Xf Xf
 rw[(N5).out,←(M6).out] at HTK
 refine HTK.mono ?_
 clear HTK
 rintro e wh ⟨rfl,t1,T1⟩
 have HT6:=Xh t1
 have KB:=Xh (KA.out.tch T1 Xf)
 clear t1 T1 KA
 have KA:=KB
 clear KB
 have k0:=KA.out.cell 0
 have k1:=KA.out.cell 1
 have k2:=KA.out.cell 2
 have k3:=KA.out.cell 3
 have k4:=KA.out.cell 4
 have z0:=Blk.free KA.out 0
 have z1:=Blk.free KA.out 1
 have z2:=Blk.free KA.out 2
 have z3:=Blk.free KA.out 3
 have z4:=Blk.free KA.out 4
 by_cases h9:479<n5
 · have t9:decide ((479:Int)<(n5:Int))=true:=decide_eq_true Xf
   clear k0 k1 k2 k3 k4 z0 z1 z2 z3 z4
   go_wp2_with (refine wpList_store_row rfl 143 (.tmp 2) (.tmp 33) rfl w.heap.size (dJ dW none 0) rfl rfl 143 (dJ ⟨n1,n2,n3,n4,[]⟩ none 0) KA.out jT rfl (kP _ _ _) ?_)
   have HN:=setRow_heap wh w.heap.size _ (dJ dW none 0) _ _ KA.out
   obtain⟨A6,c6,hk6,hs6,hg6,_⟩:=HT6.out
   have G6:=bRb hg6 (Nat.le_refl _) (dJ dW none 0)
   have hr:=HRD.out
   rw[if_pos h9] at hr
   rw[hr]
   exact bodyPost_ret (gH Tryz.results298 _ _ w.heap.size _ _ rfl HN rfl) rfl ⟨dW,none,0,rfl,rfl,Own.nil' G6 _ _⟩
 · have t9:decide ((479:Int)<(n5:Int))=false:=decide_eq_false Xf
   obtain⟨A6,c6,hk6,hs6,hg6,_⟩:=HT6.out
   have c60:=hk6.cell 0
   rw[h6] at c60 hs6
   have hcap:=Sl.cap hs6
   have hrun:=fun W=>oM bC A6 487 c6 n5 Xf W
   have HU:Hid (Bs wh A6 n5 c6 (r6.take n5)):=by
    have :=Sl.upto (hs6.mono hg6) (k:=n5) Xf
    rwa[←List.map_take] at this
   have HCL:=Xh (jd A6 n5 c6 (r6.take n5) wh HU.out Xf)
   have HG6:=Xh hg6
   clear hk6 hs6 hg6
   clear k0 k1 k2 k3 k4 z0 z1 z2 z3 z4
   go_wp2_with fail
   refine HCL.out.mono ?_
   rintro e wi ⟨v,rfl,o⟩
   have hlen:(r6.take n5).length=n5:=by rw[List.length_take];omega
   obtain⟨A7,c7,rfl,s7⟩:=o.slice
   have KB:=Xh (KA.out.mono o.below)
   have O7:=Xh (o.base HG6.out)
   rw[hlen] at O7
   clear o s7
   have z4:=Blk.free KB.out 4
   have k4:=KB.out.cell 4
   have k0:=KB.out.cell 0
   have k1:=KB.out.cell 1
   have k2:=KB.out.cell 2
   have k3:=KB.out.cell 3
   have KC:Hid (Blk (wi.setCell ⟨w.heap.size,4,none⟩ (.slice A7 n5 c7)) w.heap.size 143 [.int .i64 (n1:Int),.int .u64 (n2:Int),.int .i64 (n3:Int),.int .u64 (n4:Int),.slice A7 n5 c7]):=Blk.set KB.out 4 _
   have HON:Hid ((#[.int .i64 (n1:Int),.int .u64 (n2:Int),.int .i64 (n3:Int),.int .u64 (n4:Int),.slice A7 n5 c7]:Array Value).all (·.oneCell')=true):=by
    have :=kP ⟨n1,n2,n3,n4,r6.take n5⟩ A7 c7
    unfold dJ at this
    rw[hlen] at this
    exact this
   go_wp2_with (refine wpList_store_row rfl 143 (.tmp 2) (.tmp 42) rfl w.heap.size #[.int .i64 (n1:Int),.int .u64 (n2:Int),.int .i64 (n3:Int),.int .u64 (n4:Int),.slice A7 n5 c7] rfl rfl 143 #[.int .i64 (n1:Int),.int .u64 (n2:Int),.int .i64 (n3:Int),.int .u64 (n4:Int),.slice A7 n5 c7] KC.out jT rfl HON.out ?_)
   have HN:=setRow_heap (wi.setCell ⟨w.heap.size,4,none⟩ (.slice A7 n5 c7)) w.heap.size _ #[.int .i64 (n1:Int),.int .u64 (n2:Int),.int .i64 (n3:Int),.int .u64 (n4:Int),.slice A7 n5 c7] _ _ KC.out
   have T8:Tch (fun b=>b=w.heap.size) wi (wi.setCell ⟨w.heap.size,4,none⟩ (.slice A7 n5 c7)):=Tch.set ⟨w.heap.size,4,none⟩ _ rfl
   have T9:=T8.trans (Tch.row (S:=fun b=>b=w.heap.size) (w:=wi.setCell ⟨w.heap.size,4,none⟩ (.slice A7 n5 c7)) (g:=w.heap.size) rfl #[.int .i64 (n1:Int),.int .u64 (n2:Int),.int .i64 (n3:Int),.int .u64 (n4:Int),.slice A7 n5 c7])
   have O9:=O7.out.tch T9 (fun b e=>by rw[e];exact Nat.le_refl _) (fun b q e=>by
    obtain⟨cs,z⟩:=O7.out.aA q
    rw[e] at z
    exact absurd (bTy z KB.out) Xg)
   have hr:=HRD.out
   rw[if_neg h9] at hr
   rw[hr]
   refine bodyPost_ret (gH Tryz.results298 _ _ w.heap.size _ _ rfl HN rfl) rfl ⟨⟨n1,n2,n3,n4,r6.take n5⟩,A7,c7,?_,rfl,?_⟩
   · unfold eH
     rw[hlen]
     rfl
   · rw[hlen]
     exact O9
end
section
open Go.RowKit
def Mc.enc (m:Mc) (place:Nat) (x:Sec):Mc:=m.sum (ji place x)
theorem Own.kq {kb:Nat} {w0 w w':World} {e:TypeId} {s n:Nat} {v:Value} {xs:List Value} (h:Own w0 w e s v n xs) (k:KQ kb w w') (hb:Below w0.heap.size w0 w') (h1:¬tyM e) (h2:e≠302):Own w0 w' e s v n xs:=
 h.stay hb k.1 (fun b q=>by
  obtain⟨cs,z⟩:=h.aA q
  exact (k.blk z h1 (fun e'=>absurd e' h2)).trans z.symm)
theorem VA:¬tyM 5:=by unfold tyM;decide
section
variable {w0 w w':World} {L:Pl} {m:Mc} {n:Nat}
theorem MSt.encode (h:MSt w0 L m w) (ho:m.Ok n) (hn:n≤90000) (place:Nat) (x:Sec) (A:Option Addr) (c:Nat) (hx:x.right place=true) (hlf:x.life<18446744073709551616) (hg:x.gen<18446744073709551616) (hb:Bs w A x.body.length c x.body):
 Calls Tryz.prog 92 #[.pointer (some ⟨L.p,0,none⟩),.int .i64 (place:Int),eH x A c] w fun e w'=>∃A' c',e= .returned (.tuple #[.slice A' 512 c',.int .i64 0])∧QB L.kb w' A' 512 c' (encS m.S place x)∧MSt w0 L (m.enc place x) w'∧KQ L.kb w w':=by
 have hr:=hx
 unfold Sec.right at hr
 simp only[Bool.and_eq_true,decide_eq_true_eq] at hr
 obtain⟨⟨⟨⟨r1,r2⟩,r3⟩,r4⟩,r5⟩:=hr
 have hwhy:=Sec.xW.2 hx
 have HR:=Xh (fun wr=>vE place x A c wr)
 rw[hwhy] at HR
 have HW:=Xh (fun wr (g:Gr w wr)=>xO place x A c wr (hb.mono g) r5 r3 r2 r4 hlf hg)
 have HH:=Xh h;have HO:=Xh ho
 have HXR:Hid (eH x A c= .agg #[.int .i64 (x.kind:Int),.int .u64 (x.life:Int),.int .i64 (x.seq:Int),.int .u64 (x.gen:Int),.slice A x.body.length c]):=rfl
 have G0:Hid (Gr w (w.alloc (.cells #[.int .i64 (x.kind:Int),.int .u64 (x.life:Int),.int .i64 (x.seq:Int),.int .u64 (x.gen:Int),.slice A x.body.length c] 143))):=Gr.alloc _ _
 unfold eH at HR HW ⊢
 clear h ho hb hx hwhy r1 r2 r3 r4 r5 hlf hg
 go_in
 go_wp2_with fail
 refine (xM L.p _).mono ?_
 rintro e w1 ⟨rfl,h1⟩
 subst h1
 go_wp2_with fail
 refine (HR.out _).mono ?_
 rintro e w1 ⟨rfl,g1⟩
 have K1:Hid (Blk w1 w.heap.size 143 [.int .i64 (x.kind:Int),.int .u64 (x.life:Int),.int .i64 (x.seq:Int),.int .u64 (x.gen:Int),.slice A x.body.length c]):=(Blk.new w 143 _).mono g1
 have G1:Hid (Gr w w1):=G0.out.trans g1
 have k0:=K1.out.cell 0
 have k1:=K1.out.cell 1
 have k2:=K1.out.cell 2
 have k3:=K1.out.cell 3
 have k4:=K1.out.cell 4
 clear g1
 go_wp2_with fail
 refine (HW.out w1 G1.out).mono ?_
 rintro e w2 ⟨A2,c2,rfl,o2⟩
 clear k0 k1 k2 k3 k4
 have H2:=Xh (HH.out.mono (G1.out.trans o2.below))
 have G2:=Xh (G1.out.trans o2.below)
 have O2:=Xh (o2.base (HH.out.mono G1.out).below)
 obtain⟨A2',c2',hv,s2⟩:=O2.out.slice
 injection hv with e1 _ e2
 subst e1 e2
 have S2:Hid (Bs w2 A2 504 c2 (ji place x)):=s2
 have HSM:=Xh (H2.out.sums HO.out hn A2 504 c2 (ji place x) S2.out)
 have NB:Hid (∀b,(Value.slice A2 504 c2).ownBlock=some b→w.heap.size≤b):=fun b q=>Nat.le_trans G1.out.size (o2.ge q)
 clear o2 s2
 go_wp2_with fail
 refine HSM.out.mono ?_
 rintro e w3 ⟨A3,c3,rfl,s3,h3,k3⟩
 have H3:=Xh h3;have S3:=Xh s3
 have K3:=Xh ((KQ.gr G2.out).trans k3)
 have O3:=Xh (O2.out.kq k3 h3.below VA Xg)
 have HPS:Hid (qN (jC (nU m.S (ji place x))) 8=jC (nU m.S (ji place x))):=by
  show _=_
  unfold qN
  rw[if_pos Xf]
  show gy _ 8=_
  rw[Nk (by rw[jf];exact Nat.le_refl _),jf]
  simp
 have HPD:=Xh (nR A3 8 c3 _ 8 w3 S3.out)
 rw[HPS.out] at HPD
 clear h3 s3 k3
 go_wp2_with fail
 refine HPD.out.mono ?_
 rintro e w4 ⟨v4,rfl,o4⟩
 rw[jf] at o4
 obtain⟨A4,c4,rfl,s4⟩:=o4.slice
 have S4:Hid (Bs w4 A4 8 c4 (jC (nU m.S (ji place x)))):=s4
 have H4:=Xh (H3.out.mono o4.below)
 have O4:=Xh (O3.out.mono o4.below)
 have K4:=Xh (K3.out.trans (KQ.gr o4.below))
 clear o4 s4
 go_wp2_with (at_builtin;refine qx rfl (.tmp 21) (.tmp 25) 43 rfl bC rfl O4.out rfl S4.out (eT _) Xf ?_;intro v5 w5 o5 kp5;rw[←List.map_append] at o5;obtain⟨A5,c5,rfl,s5⟩:=o5.slice;have O5:=Xh o5;have KP5:=Xh kp5;clear o5 kp5 s5)
 go_ret2
 have T5:=KP5.out.tch (gJ O4.out.below O5.out.below KP5.out.2.1)
 refine⟨A5,c5,rfl,?_,H4.out.grown O4.out VN O5.out KP5.out,K4.out.new T5 (fun b q=>NB.out b q)⟩
 have hl:(ji place x++jC (nU m.S (ji place x))).length=512:=Qw m.S place x
 exact QB.own (w:=w0) O5.out
end
end
end Go.Proofs.YtipdlnejmcmbbaaGreatDoor
