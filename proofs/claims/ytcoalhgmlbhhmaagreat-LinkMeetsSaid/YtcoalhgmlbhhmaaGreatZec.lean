/- Steps of the proof, joined: V11, BeLaw, VData, V12, V13, VPro1, VPro2, VPro3, VPro4, VPro5. -/
import Derived.Test.YtcoalhgmlbhhmaaGreatZeb
import Derived.Laws.BitsAllLaws
namespace Go.Proofs.YtcoalhgmlbhhmaaGreat
open Go
section
open Go Go.RowKit
inductive Kt where
  | fin (Q:VQ)
  | code (c:VC) (k:Kt)
  | blk (id:Nat) (k:Kt)
  | rnd (J:(Nat→V)→St→Prop) (k:Kt)
def Kt.q (P:Program):Kt→VQ
  | .fin Q=>Q
  | .code c k=>(k.q P).seq (vwp P c (k.q P))
  | .blk id k=>(k.q P).blk id
  | .rnd J k=>(k.q P).seq J
def Run (P:Program) (c:VC) (k:Kt) (A:Nat→V) (st:St):Prop:=vwp P c (k.q P) A st
def Ops (P:Program) (ops:List VO) (k:Kt) (A:Nat→V) (st:St):Prop:=vops P (k.q P .normal) ops A st
def At (P:Program) (k:Kt) (e:VEx) (A:Nat→V) (st:St):Prop:=k.q P e A st
def If (P:Program) (c:V) (a b:VC) (k:Kt) (A:Nat→V) (st:St):Prop :=
  match c with
  | .sc (.bool t)=>(t=true→Run P a k A st)∧(t=false→Run P b k A st)
  | _=>False
def Grd (P:Program) (v:V) (w:Bool) (o:VO) (rest:List VO) (k:Kt) (A:Nat→V) (st:St):Prop :=
  match v with
  | .sc (.bool b)=>(b=w→Ops P (o :: rest) k A st)∧(b ≠ w→Ops P rest k (putV A o.dst .und) st)
  | .und=>Ops P rest k (putV A o.dst .und) st
  | _=>False
def Cal (P:Program) (f:FuncId) (args:List V) (d:Option Nat) (obs:List (Option Nat × X × Nat)) (rest:List VO) (k:Kt) (A:Nat→V) (st:St):Prop :=
  VCalls P f args st fun r st'=>r.Ok→obsOk st' A obs∧Ops P rest k (putV A d r) st'
def App (P:Program) (size bytes:Nat) (x y:V) (d:Option Nat) (obs:List (Option Nat × X × Nat)) (rest:List VO) (k:Kt) (A:Nat→V) (st:St):Prop :=
  vapp size bytes x y st fun r st'=>obsOk st' A obs∧Ops P rest k (putV A d r) st'
def Apx (P:Program) (pr:Prop × V) (size bytes:Nat) (x:V) (d:Option Nat) (obs:List (Option Nat × X × Nat)) (rest:List VO) (k:Kt) (A:Nat→V) (st:St):Prop :=
  pr.1∧App P size bytes x pr.2 d obs rest k A st
def Opv (P:Program) (pr:Prop × V) (d:Option Nat) (rest:List VO) (k:Kt) (A:Nat→V) (st:St):Prop:=pr.1∧Ops P rest k (putV A d pr.2) st
def Bx (P:Program) (cs:List V) (d:Option Nat) (obs:List (Option Nat × X × Nat)) (rest:List VO) (k:Kt) (A:Nat→V) (st:St):Prop :=
  cs.length ≠ 0∧∀ b,st.sz≤b→obsOk (st.put b cs) A obs∧Ops P rest k (putV A d (ptrV b)) (st.put b cs)
def Bo (P:Program) (size:Nat) (cs:List V) (d:Option Nat) (obs:List (Option Nat × X × Nat)) (rest:List VO) (k:Kt) (A:Nat→V) (st:St):Prop :=
  allLen size cs∧((∀ g,st.sz≤g→obsOk (st.use g cs.length) A obs∧Ops P rest k (putV A d (.sl (.own g size) cs)) (st.use g cs.length)) ∨
    ∀ b,st.sz≤b→obsOk (st.put b (cs.flatMap V.cells)) A obs∧Ops P rest k (putV A d (.sc (.slice (some ⟨b,0,none⟩) cs.length cs.length))) (st.put b (cs.flatMap V.cells)))
def Stp (P:Program) (cs:List V) (b:Nat) (obs:List (Option Nat × X × Nat)) (d:Option Nat) (rest:List VO) (k:Kt) (A:Nat→V) (st:St):Prop :=
  obsOk (st.put b cs) A obs∧Ops P rest k (putV A d .und) (st.put b cs)
def Stb (P:Program) (bx:Option (List V)) (size b o:Nat) (ds:List V) (obs:List (Option Nat × X × Nat)) (d:Option Nat) (rest:List VO) (k:Kt) (A:Nat→V) (st:St):Prop :=
  match bx with
  | some cs=>ds.length=size∧0 < size∧o + size≤cs.length∧mono cs∧Stp P (splice cs o ds) b obs d rest k A st
  | none=>False
def Mks (P:Program) (bytes:Nat) (z:List V) (x:V) (d:Option Nat) (obs:List (Option Nat × X × Nat)) (rest:List VO) (k:Kt) (A:Nat→V) (st:St):Prop :=
  match x with
  | .sc (.int _ n)=>0≤n∧(bytes:Int) * n≤281474976710656∧n≤9223372036854775807∧∀ b,st.sz≤b→obsOk (st.put b (List.replicate n.toNat z).flatten) A obs∧Ops P rest k (putV A d (.sc (.slice (some ⟨b,0,none⟩) n.toNat n.toNat))) (st.put b (List.replicate n.toNat z).flatten)
  | _=>False
def Mkr (P:Program) (size:Nat) (z:List V) (n:Nat) (d:Option Nat) (obs:List (Option Nat × X × Nat)) (rest:List VO) (k:Kt) (A:Nat→V) (st:St):Prop :=
  (∀ g,st.sz≤g→obsOk (st.use g 0) A obs∧Ops P rest k (putV A d (.sl (.own g size) [])) (st.use g 0)) ∨
    ∀ b,st.sz≤b→obsOk (st.put b (List.replicate n z).flatten) A obs∧Ops P rest k (putV A d (.sc (.slice (some ⟨b,0,none⟩) 0 n))) (st.put b (List.replicate n z).flatten)
def Mko (P:Program) (size bytes:Nat) (z:List V) (x:V) (d:Option Nat) (obs:List (Option Nat × X × Nat)) (rest:List VO) (k:Kt) (A:Nat→V) (st:St):Prop :=
  match x with
  | .sc (.int _ n)=>0≤n∧(bytes:Int) * n≤281474976710656∧n≤9223372036854775807∧Mkr P size z n.toNat d obs rest k A st
  | _=>False
def Sto (P:Program) (size:Nat) (x y:V) (obs:List (Option Nat × X × Nat)) (d:Option Nat) (rest:List VO) (k:Kt) (A:Nat→V) (st:St):Prop :=
  match x with
  | .sc (.pointer (some ⟨b,o,none⟩))=>Stb P (st.box b) size b o y.cells obs d rest k A st
  | _=>False
def Mub (P:Program) (bx:Option (List V)) (ag:Bool) (lf:List Lf) (b:Nat) (kv v:V) (d:Option Nat) (obs:List (Option Nat × X × Nat)) (rest:List VO) (k:Kt) (A:Nat→V) (st:St):Prop :=
  match bx with
  | some [.mp ag' lf' es c]=>ag'=ag∧lf'=lf∧kOk ag lf kv∧Stp P [.mp ag lf (mset kv v c es) (mclk es kv c)] b obs d rest k A st
  | _=>False
def Mup (P:Program) (ag:Bool) (lf:List Lf) (x kv v:V) (d:Option Nat) (obs:List (Option Nat × X × Nat)) (rest:List VO) (k:Kt) (A:Nat→V) (st:St):Prop :=
  match x with
  | .sc (.map (some b))=>Mub P (st.box b) ag lf b kv v d obs rest k A st
  | _=>False
def Mdb (P:Program) (bx:Option (List V)) (ag:Bool) (lf:List Lf) (b:Nat) (kv:V) (d:Option Nat) (obs:List (Option Nat × X × Nat)) (rest:List VO) (k:Kt) (A:Nat→V) (st:St):Prop :=
  match bx with
  | some [.mp ag' lf' es c]=>ag'=ag∧lf'=lf∧kOk ag lf kv∧obsOk (st.put b [.mp ag lf (mdel kv es) c]) A obs∧Ops P rest k (putV A d (.tup [])) (st.put b [.mp ag lf (mdel kv es) c])
  | _=>False
def Mdl (P:Program) (ag:Bool) (lf:List Lf) (x kv:V) (d:Option Nat) (obs:List (Option Nat × X × Nat)) (rest:List VO) (k:Kt) (A:Nat→V) (st:St):Prop :=
  match x with
  | .sc (.map none)=>kOk ag lf kv∧obsOk st A obs∧Ops P rest k (putV A d (.tup [])) st
  | .sc (.map (some b))=>Mdb P (st.box b) ag lf b kv d obs rest k A st
  | _=>False
def Rgb (P:Program) (bx:Option (List V)) (b:Nat) (d:Option Nat) (obs:List (Option Nat × X × Nat)) (rest:List VO) (k:Kt) (A:Nat→V) (st:St):Prop :=
  match bx with
  | some [.mp _ _ _ c]=>∀ r,st.sz≤r→obsOk (st.put r [.it (some b) c [] c]) A obs∧Ops P rest k (putV A d (ptrV r)) (st.put r [.it (some b) c [] c])
  | _=>False
def Rng (P:Program) (x:V) (d:Option Nat) (obs:List (Option Nat × X × Nat)) (rest:List VO) (k:Kt) (A:Nat→V) (st:St):Prop :=
  match x with
  | .sc (.map none)=>∀ r,st.sz≤r→obsOk (st.put r [.it none 0 [] 0]) A obs∧Ops P rest k (putV A d (ptrV r)) (st.put r [.it none 0 [] 0])
  | .sc (.map (some b))=>Rgb P (st.box b) b d obs rest k A st
  | _=>False
def Nxt (P:Program) (x:V) (d:Option Nat) (obs:List (Option Nat × X × Nat)) (rest:List VO) (k:Kt) (A:Nat→V) (st:St):Prop :=
  vnxt x st fun r st'=>obsOk st' A obs∧Ops P rest k (putV A d r) st'
def Meb (P:Program) (bx:Option (List V)) (ag:Bool) (lf:List Lf) (z:V) (b:Nat) (kv:V) (d:Option Nat) (obs:List (Option Nat × X × Nat)) (rest:List VO) (k:Kt) (A:Nat→V) (st:St):Prop :=
  match bx with
  | some [.mp ag' lf' es c]=>ag'=ag∧lf'=lf∧kOk ag lf kv∧obsOk (st.put b [.mp ag lf (mset kv ((mfind kv es).getD z) c es) (mclk es kv c)]) A obs∧Ops P rest k (putV A d (.tup [(mfind kv es).getD z,.sc (.int .i64 (mborn kv c es))])) (st.put b [.mp ag lf (mset kv ((mfind kv es).getD z) c es) (mclk es kv c)])
  | _=>False
def Met (P:Program) (ag:Bool) (lf:List Lf) (z x kv:V) (d:Option Nat) (obs:List (Option Nat × X × Nat)) (rest:List VO) (k:Kt) (A:Nat→V) (st:St):Prop :=
  match x with
  | .sc (.map (some b))=>Meb P (st.box b) ag lf z b kv d obs rest k A st
  | _=>False
def Esb (P:Program) (bx:Option (List V)) (b s:Nat) (v:V) (d:Option Nat) (obs:List (Option Nat × X × Nat)) (rest:List VO) (k:Kt) (A:Nat→V) (st:St):Prop :=
  match bx with
  | some [.mp ag lf es c]=>(∃ e ∈ es,e.2.2=s)∧Stp P [.mp ag lf (mstamp s v es) c] b obs d rest k A st
  | _=>False
def Est (P:Program) (x s v:V) (d:Option Nat) (obs:List (Option Nat × X × Nat)) (rest:List VO) (k:Kt) (A:Nat→V) (st:St):Prop :=
  match x,s with
  | .sc (.map (some b)),.sc (.int .i64 n)=>0≤n∧Esb P (st.box b) b n.toNat v d obs rest k A st
  | _,_=>False
def Clb (P:Program) (bx:Option (List V)) (size:Nat) (z:List V) (b o n:Nat) (d:Option Nat) (obs:List (Option Nat × X × Nat)) (rest:List VO) (k:Kt) (A:Nat→V) (st:St):Prop :=
  match bx with
  | some cs=>o + n * size≤cs.length∧mono cs∧obsOk (st.put b (splice cs o (List.replicate n z).flatten)) A obs∧Ops P rest k (putV A d (.tup [])) (st.put b (splice cs o (List.replicate n z).flatten))
  | none=>False
def Clr (P:Program) (size:Nat) (z:List V) (x:V) (d:Option Nat) (obs:List (Option Nat × X × Nat)) (rest:List VO) (k:Kt) (A:Nat→V) (st:St):Prop :=
  match x with
  | .sl _ []=>obsOk st A obs∧Ops P rest k (putV A d (.tup [])) st
  | .sc (.slice (some ⟨b,o,none⟩) n _)=>Clb P (st.box b) size z b o n d obs rest k A st
  | _=>False
def Clv (P:Program) (x:V) (args:List V) (d:Option Nat) (obs:List (Option Nat × X × Nat)) (rest:List VO) (k:Kt) (A:Nat→V) (st:St):Prop :=
  match x with
  | .sc (.func (.func f) first cap)=>callable P f=true∧(∀ v ∈ first.toList ++ cap.toList,v.oneCell'=true)∧Cal P f (first.toList.map V.sc ++ args ++ cap.toList.map V.sc) d obs rest k A st
  | _=>False
def Ivk (P:Program) (name:String) (x:V) (args:List V) (d:Option Nat) (obs:List (Option Nat × X × Nat)) (rest:List VO) (k:Kt) (A:Nat→V) (st:St):Prop :=
  vinv P name x args st fun r st'=>r.Ok→obsOk st' A obs∧Ops P rest k (putV A d r) st'
def Cpb (P:Program) (bx by':Option (List V)) (size b o n o2 m:Nat) (d:Option Nat) (obs:List (Option Nat × X × Nat)) (rest:List VO) (k:Kt) (A:Nat→V) (st:St):Prop :=
  match bx,by' with
  | some cs,some ds=>mono cs∧mono ds∧o + n * size≤cs.length∧o2 + m * size≤ds.length∧obsOk (st.put b (splice cs o ((ds.drop o2).take (min m n * size)))) A obs ∧
    Ops P rest k (putV A d (.sc (.int .i64 (min m n:Nat)))) (st.put b (splice cs o ((ds.drop o2).take (min m n * size))))
  | _,_=>False
def Cpy (P:Program) (size:Nat) (x y:V) (d:Option Nat) (obs:List (Option Nat × X × Nat)) (rest:List VO) (k:Kt) (A:Nat→V) (st:St):Prop :=
  match x,y with
  | .sc (.slice (some ⟨b,o,none⟩) n _),.sc (.slice (some ⟨b2,o2,none⟩) m _)=>Cpb P (st.box b) (st.box b2) size b o n o2 m d obs rest k A st
  | _,_=>False
def vbld (z:List V) (ps:List (Nat × Nat × V)):Prop × V:=((fillV z ps).1,.agg (fillV z ps).2)
def vbsl (size:Nat) (cs:List V):Prop × V:=(allLen size cs,.sl .no cs)
def over (ws:List Nat) (B A:Nat→V):Nat→V:=fun t=>if t ∈ ws then B t else A t
section
variable {P:Program} {k:Kt} {A:Nat→V} {st:St}
theorem run_skip:Run P .skip k A st=At P k .normal A st:=_root_.id rfl
theorem run_reg {ops:List VO}:Run P (.reg ops) k A st=Ops P ops k A st:=_root_.id rfl
theorem run_seq {a b:VC}:Run P (.seq a b) k A st=Run P a (.code b k) A st:=_root_.id rfl
theorem run_blk {id:Nat} {c:VC}:Run P (.blk id c) k A st=Run P c (.blk id k) A st:=_root_.id rfl
theorem run_exit {id:Nat}:Run P (.exit id) k A st=At P k (.exit id) A st:=_root_.id rfl
theorem run_ret:Run P .ret k A st=At P k .ret A st:=_root_.id rfl
theorem run_cond {c:X} {a b:VC}:Run P (.cond c a b) k A st=If P (c.ev A) a b k A st:=by
  unfold Run If
  simp only [vwp]
  all_goals rfl
theorem if_true {a b:VC}:If P (.sc (.bool true)) a b k A st=Run P a k A st:=by simp [If]
theorem if_false {a b:VC}:If P (.sc (.bool false)) a b k A st=Run P b k A st:=by simp [If]
theorem If.mk {t:Bool} {a b:VC} (h1:t=true→Run P a k A st) (h2:t=false→Run P b k A st):If P (.sc (.bool t)) a b k A st:=⟨h1,h2⟩
theorem If.dec {p:Prop} {_:Decidable p} {a b:VC} (h1:p→Run P a k A st) (h2:¬ p→Run P b k A st):If P (.sc (.bool (decide p))) a b k A st:=⟨fun h=>h1 (by simpa using h),fun h=>h2 (by simpa using h)⟩
theorem at_code_n {c:VC}:At P (.code c k) .normal A st=Run P c k A st:=_root_.id rfl
theorem at_code_x {c:VC} {i:Nat}:At P (.code c k) (.exit i) A st=At P k (.exit i) A st:=_root_.id rfl
theorem at_code_r {c:VC}:At P (.code c k) .ret A st=At P k .ret A st:=_root_.id rfl
theorem at_blk_n {id:Nat}:At P (.blk id k) .normal A st=At P k .normal A st:=_root_.id rfl
theorem at_blk_x {id i:Nat}:At P (.blk id k) (.exit i) A st=if i=id then At P k .normal A st else At P k (.exit i) A st:=_root_.id rfl
theorem at_blk_r {id:Nat}:At P (.blk id k) .ret A st=At P k .ret A st:=_root_.id rfl
theorem at_rnd_n {J:(Nat→V)→St→Prop}:At P (.rnd J k) .normal A st=J A st:=_root_.id rfl
theorem at_rnd_x {J:(Nat→V)→St→Prop} {i:Nat}:At P (.rnd J k) (.exit i) A st=At P k (.exit i) A st:=_root_.id rfl
theorem at_rnd_r {J:(Nat→V)→St→Prop}:At P (.rnd J k) .ret A st=At P k .ret A st:=_root_.id rfl
theorem at_fin_n {res:List RV} {Q:V→St→Prop}:At P (.fin (finQ res Q)) .normal A st=vret res Q A st:=_root_.id rfl
theorem at_fin_r {res:List RV} {Q:V→St→Prop}:At P (.fin (finQ res Q)) .ret A st=vret res Q A st:=_root_.id rfl
theorem ops_nil:Ops P [] k A st=At P k .normal A st:=_root_.id rfl
theorem ops_grd {d:Option Nat} {op:VOp} {s:Nat} {w:Bool} {obs:List (Option Nat × X × Nat)} {rest:List VO}:Ops P (⟨d,op,some (s,w),obs⟩ :: rest) k A st=Grd P (A s) w ⟨d,op,none,obs⟩ rest k A st:=_root_.id rfl
theorem grd_und {w:Bool} {o:VO} {rest:List VO}:Grd P .und w o rest k A st=Ops P rest k (putV A o.dst .und) st:=_root_.id rfl
theorem grd_tt {o:VO} {rest:List VO}:Grd P (.sc (.bool true)) true o rest k A st=Ops P (o :: rest) k A st:=by simp [Grd]
theorem grd_ff {o:VO} {rest:List VO}:Grd P (.sc (.bool false)) false o rest k A st=Ops P (o :: rest) k A st:=by simp [Grd]
theorem grd_tf {o:VO} {rest:List VO}:Grd P (.sc (.bool true)) false o rest k A st=Ops P rest k (putV A o.dst .und) st:=by simp [Grd]
theorem grd_ft {o:VO} {rest:List VO}:Grd P (.sc (.bool false)) true o rest k A st=Ops P rest k (putV A o.dst .und) st:=by simp [Grd]
theorem Grd.mk {b w:Bool} {o:VO} {rest:List VO} (h1:b=w→Ops P (o :: rest) k A st) (h2:b ≠ w→Ops P rest k (putV A o.dst .und) st):Grd P (.sc (.bool b)) w o rest k A st:=⟨h1,h2⟩
section
variable {d:Option Nat} {obs:List (Option Nat × X × Nat)} {rest:List VO}
theorem ops_mv {x:X}:Ops P (⟨d,.mv x,none,[]⟩ :: rest) k A st=Opv P (True,x.ev A) d rest k A st:=by
  simp [Opv,Ops,vops,vguard,vop,pop,obsOk]
theorem ops_pick {c x y:X}:Ops P (⟨d,.pick c x y,none,[]⟩ :: rest) k A st=Opv P (vpick (x.ev A) (y.ev A) (c.ev A)) d rest k A st:=by
  simp [Opv,Ops,vops,vguard,vop,pop,obsOk]
theorem ops_bin {op:BinOp} {x y:X}:Ops P (⟨d,.bin op x y,none,[]⟩ :: rest) k A st=Opv P (vbin op (x.ev A) (y.ev A)) d rest k A st:=by
  simp [Opv,Ops,vops,vguard,vop,pop,obsOk]
theorem ops_un {op:UnOp} {x:X}:Ops P (⟨d,.un op x,none,[]⟩ :: rest) k A st=Opv P (vun op (x.ev A)) d rest k A st:=by
  simp [Opv,Ops,vops,vguard,vop,pop,obsOk]
theorem ops_conv {c:IntKind} {x:X}:Ops P (⟨d,.conv c x,none,[]⟩ :: rest) k A st=Opv P (vconv c (x.ev A)) d rest k A st:=by
  simp [Opv,Ops,vops,vguard,vop,pop,obsOk]
theorem ops_fld {off:Nat} {x:X}:Ops P (⟨d,.fld off x,none,[]⟩ :: rest) k A st=Opv P (vfld off (x.ev A)) d rest k A st:=by
  simp [Opv,Ops,vops,vguard,vop,pop,obsOk]
theorem ops_binb {neg:Bool} {x y:X}:Ops P (⟨d,.binb neg x y,none,[]⟩ :: rest) k A st=Opv P (vbinb neg (x.ev A) (y.ev A)) d rest k A st:=by
  simp [Opv,Ops,vops,vguard,vop,pop,obsOk]
theorem ops_eqs {neg:Bool} {l:List Lf} {x y:X}:Ops P (⟨d,.eqs neg l x y,none,[]⟩ :: rest) k A st=Opv P (veqs neg l (x.ev A) (y.ev A)) d rest k A st:=by
  simp [Opv,Ops,vops,vguard,vop,pop,obsOk]
theorem ops_isnil {neg:Bool} {x:X}:Ops P (⟨d,.isnil neg x,none,[]⟩ :: rest) k A st=Opv P (visnil neg (x.ev A)) d rest k A st:=by
  simp [Opv,Ops,vops,vguard,vop,pop,obsOk]
theorem ops_pnil {neg:Bool} {x:X}:Ops P (⟨d,.pnil neg x,none,[]⟩ :: rest) k A st=Opv P (vpnil neg (x.ev A)) d rest k A st:=by
  simp [Opv,Ops,vops,vguard,vop,pop,obsOk]
theorem ops_b2s {x:X}:Ops P (⟨d,.b2s x,none,[]⟩ :: rest) k A st=Opv P (vb2s (x.ev A)) d rest k A st:=by
  simp [Opv,Ops,vops,vguard,vop,pop,obsOk]
theorem ops_b2sB {x:X}:Ops P (⟨d,.b2sB x,none,[]⟩ :: rest) k A st=Opv P (vb2sB st (x.ev A)) d rest k A st:=by
  simp [Opv,Ops,vops,vguard,vop,pop,obsOk]
theorem ops_s2a {n size:Nat} {x:X}:Ops P (⟨d,.s2a n size x,none,[]⟩ :: rest) k A st=Opv P (vs2a n size (x.ev A)) d rest k A st:=by
  simp [Opv,Ops,vops,vguard,vop,pop,obsOk]
theorem ops_slcA {n size:Nat} {x:X} {lo hi:Option X}:Ops P (⟨d,.slcA n size x lo hi,none,[]⟩ :: rest) k A st=Opv P (vslcA n size (x.ev A) (lo.map fun x=>x.ev A) (hi.map fun x=>x.ev A)) d rest k A st:=by
  simp [Opv,Ops,vops,vguard,vop,pop,obsOk]
theorem ops_s2b {x:X}:Ops P (⟨d,.s2b x,none,[]⟩ :: rest) k A st=Opv P (vs2b (x.ev A)) d rest k A st:=by
  simp [Opv,Ops,vops,vguard,vop,pop,obsOk]
theorem ops_sidx {x y:X}:Ops P (⟨d,.sidx x y,none,[]⟩ :: rest) k A st=Opv P (vsidx (x.ev A) (y.ev A)) d rest k A st:=by
  simp [Opv,Ops,vops,vguard,vop,pop,obsOk]
theorem ops_aidx {n:Nat} {x y:X}:Ops P (⟨d,.aidx n x y,none,[]⟩ :: rest) k A st=Opv P (vaidx n (x.ev A) (y.ev A)) d rest k A st:=by
  simp [Opv,Ops,vops,vguard,vop,pop,obsOk]
theorem ops_mks {size bytes:Nat} {z:List V} {x:X}:Ops P (⟨d,.mks size bytes z x,none,obs⟩ :: rest) k A st=Mks P bytes z (x.ev A) d obs rest k A st:=by
  unfold Mks
  simp only [Ops,vops,vguard,vop,vmks]
  all_goals rfl
theorem ops_mko {size bytes:Nat} {z:List V} {x:X}:Ops P (⟨d,.mko size bytes z x,none,obs⟩ :: rest) k A st=Mko P size bytes z (x.ev A) d obs rest k A st:=by
  unfold Mko
  simp only [Ops,vops,vguard,vop,vmko]
  all_goals rfl
theorem mks_int {bytes:Nat} {z:List V} {kk:IntKind} {n:Int}:Mks P bytes z (.sc (.int kk n)) d obs rest k A st=(0≤n∧(bytes:Int) * n≤281474976710656∧n≤9223372036854775807∧∀ b,st.sz≤b→obsOk (st.put b (List.replicate n.toNat z).flatten) A obs∧Ops P rest k (putV A d (.sc (.slice (some ⟨b,0,none⟩) n.toNat n.toNat))) (st.put b (List.replicate n.toNat z).flatten)):=_root_.id rfl
theorem mko_int {size bytes:Nat} {z:List V} {kk:IntKind} {n:Int}:Mko P size bytes z (.sc (.int kk n)) d obs rest k A st=(0≤n∧(bytes:Int) * n≤281474976710656∧n≤9223372036854775807∧Mkr P size z n.toNat d obs rest k A st):=_root_.id rfl
theorem Mkr.own {size n:Nat} {z:List V} (hk:∀ g,st.sz≤g→obsOk (st.use g 0) A obs∧Ops P rest k (putV A d (.sl (.own g size) [])) (st.use g 0)):Mkr P size z n d obs rest k A st:=.inl hk
theorem Mkr.box {size n:Nat} {z:List V} (hk:∀ b,st.sz≤b→obsOk (st.put b (List.replicate n z).flatten) A obs∧Ops P rest k (putV A d (.sc (.slice (some ⟨b,0,none⟩) 0 n))) (st.put b (List.replicate n z).flatten)):Mkr P size z n d obs rest k A st:=.inr hk
theorem ops_ix {size:Nat} {x i:X}:Ops P (⟨d,.ix size x i,none,[]⟩ :: rest) k A st=Opv P (vix size (x.ev A) (i.ev A)) d rest k A st:=by
  simp [Opv,Ops,vops,vguard,vop,pop,obsOk]
theorem ops_ixa {n size:Nat} {x i:X}:Ops P (⟨d,.ixa n size x i,none,[]⟩ :: rest) k A st=Opv P (vixa n size (x.ev A) (i.ev A)) d rest k A st:=by
  simp [Opv,Ops,vops,vguard,vop,pop,obsOk]
theorem ops_load {n:Option Nat} {x:X}:Ops P (⟨d,.load n x,none,[]⟩ :: rest) k A st=Opv P (vload st n (x.ev A)) d rest k A st:=by
  simp [Opv,Ops,vops,vguard,vop,pop,obsOk]
theorem ops_nilck {x:X}:Ops P (⟨d,.nilck x,none,[]⟩ :: rest) k A st=Opv P (vnil (x.ev A)) d rest k A st:=by
  simp [Opv,Ops,vops,vguard,vop,pop,obsOk]
theorem ops_ext {x:X} {i:Nat}:Ops P (⟨d,.ext x i,none,[]⟩ :: rest) k A st=Opv P (vext i (x.ev A)) d rest k A st:=by
  simp [Opv,Ops,vops,vguard,vop,pop,obsOk]
theorem ops_len {x:X}:Ops P (⟨d,.len x,none,[]⟩ :: rest) k A st=Opv P (vlen (x.ev A)) d rest k A st:=by
  simp [Opv,Ops,vops,vguard,vop,pop,obsOk]
theorem ops_slen {x:X}:Ops P (⟨d,.slen x,none,[]⟩ :: rest) k A st=Opv P (vslen (x.ev A)) d rest k A st:=by
  simp [Opv,Ops,vops,vguard,vop,pop,obsOk]
theorem ops_mn {x y:X}:Ops P (⟨d,.mn x y,none,[]⟩ :: rest) k A st=Opv P (vmm false (x.ev A) (y.ev A)) d rest k A st:=by
  simp [Opv,Ops,vops,vguard,vop,pop,obsOk]
theorem ops_mx {x y:X}:Ops P (⟨d,.mx x y,none,[]⟩ :: rest) k A st=Opv P (vmm true (x.ev A) (y.ev A)) d rest k A st:=by
  simp [Opv,Ops,vops,vguard,vop,pop,obsOk]
theorem ops_bld {z:List V} {ps:List (Nat × Nat × X)}:Ops P (⟨d,.bld z ps,none,[]⟩ :: rest) k A st=Opv P (vbld z (ps.map fun p=>(p.1,p.2.1,p.2.2.ev A))) d rest k A st:=by
  simp [Opv,vbld,Ops,vops,vguard,vop,pop,obsOk]
theorem ops_bsl {size:Nat} {xs:List X}:Ops P (⟨d,.bsl size xs,none,[]⟩ :: rest) k A st=Opv P (vbsl size (xs.map fun x=>strip (x.ev A))) d rest k A st:=by
  simp [Opv,vbsl,Ops,vops,vguard,vop,pop,obsOk]
theorem ops_slc {size:Nat} {x:X} {lo hi:Option X}:Ops P (⟨d,.slc size x lo hi,none,[]⟩ :: rest) k A st=Opv P (vslc size (x.ev A) (lo.map fun x=>x.ev A) (hi.map fun x=>x.ev A)) d rest k A st:=by
  simp [Opv,Ops,vops,vguard,vop,pop,obsOk]
theorem ops_sslc {x:X} {lo hi:Option X}:Ops P (⟨d,.sslc x lo hi,none,[]⟩ :: rest) k A st=Opv P (vsslc (x.ev A) (lo.map fun x=>x.ev A) (hi.map fun x=>x.ev A)) d rest k A st:=by
  simp [Opv,Ops,vops,vguard,vop,pop,obsOk]
theorem ops_box {x:X}:Ops P (⟨d,.box x,none,obs⟩ :: rest) k A st=Bx P (x.ev A).cells d obs rest k A st:=by
  simp [Bx,Ops,vops,vguard,vop]
theorem ops_alc {z:List V}:Ops P (⟨d,.alc z,none,obs⟩ :: rest) k A st=(∀ b,st.sz≤b→obsOk (st.put b z) A obs∧Ops P rest k (putV A d (ptrV b)) (st.put b z)):=by
  simp [Ops,vops,vguard,vop]
theorem ops_alcX {z:List V}:Ops P (⟨d,.alcX z,none,obs⟩ :: rest) k A st=(∀ b,st.box b=none→st.own b=none→obsOk (st.put b z) A obs∧Ops P rest k (putV A d (ptrV b)) (st.put b z)):=by
  simp [Ops,vops,vguard,vop]
theorem ops_boxX {x:X}:Ops P (⟨d,.boxX x,none,obs⟩ :: rest) k A st=((x.ev A).cells.length ≠ 0∧∀ b,st.box b=none→st.own b=none→obsOk (st.put b (x.ev A).cells) A obs∧Ops P rest k (putV A d (ptrV b)) (st.put b (x.ev A).cells)):=by
  simp [Ops,vops,vguard,vop]
theorem ops_bslo {size:Nat} {xs:List X}:Ops P (⟨d,.bslo size xs,none,obs⟩ :: rest) k A st=Bo P size (xs.map fun x=>strip (x.ev A)) d obs rest k A st:=by
  simp [Bo,Ops,vops,vguard,vop]
theorem ops_store {size:Nat} {x y:X}:Ops P (⟨d,.store size x y,none,obs⟩ :: rest) k A st=Sto P size (x.ev A) (y.ev A) obs d rest k A st:=_root_.id rfl
theorem ops_app {size bytes:Nat} {x y:X}:Ops P (⟨d,.app size bytes x y,none,obs⟩ :: rest) k A st=App P size bytes (x.ev A) (y.ev A) d obs rest k A st:=_root_.id rfl
theorem ops_appx {size bytes:Nat} {z:Option V} {x y:X}:Ops P (⟨d,.appx size bytes z x y,none,obs⟩ :: rest) k A st=Apx P (srcX z (y.ev A)) size bytes (x.ev A) d obs rest k A st:=_root_.id rfl
theorem apx_mk {p:Prop} {y:V} {size bytes:Nat} {x:V}:Apx P (p,y) size bytes x d obs rest k A st=(p∧App P size bytes x y d obs rest k A st):=_root_.id rfl
theorem ops_call {f:FuncId} {args:List X}:Ops P (⟨d,.call f args,none,obs⟩ :: rest) k A st=Cal P f (args.map fun x=>x.ev A) d obs rest k A st:=_root_.id rfl
theorem ops_mlk {ag ok:Bool} {lf:List Lf} {z:V} {x y:X}:Ops P (⟨d,.mlk ag lf z ok x y,none,[]⟩ :: rest) k A st=Opv P (vmlk st.box ag lf z ok (x.ev A) (y.ev A)) d rest k A st:=by
  simp [Opv,Ops,vops,vguard,vop,pop,obsOk]
theorem ops_mlen {x:X}:Ops P (⟨d,.mlen x,none,[]⟩ :: rest) k A st=Opv P (vmlen st.box (x.ev A)) d rest k A st:=by
  simp [Opv,Ops,vops,vguard,vop,pop,obsOk]
theorem ops_mnil {neg:Bool} {x:X}:Ops P (⟨d,.mnil neg x,none,[]⟩ :: rest) k A st=Opv P (vmnil neg (x.ev A)) d rest k A st:=by
  simp [Opv,Ops,vops,vguard,vop,pop,obsOk]
theorem ops_ent {x:X}:Ops P (⟨d,.ent x,none,[]⟩ :: rest) k A st=Opv P (vent st.box (x.ev A)) d rest k A st:=by
  simp [Opv,Ops,vops,vguard,vop,pop,obsOk]
theorem ops_mfn {f:Fn} {a b:List X}:Ops P (⟨d,.mfn f a b,none,[]⟩ :: rest) k A st=Opv P (vmfn f (a.map fun x=>x.ev A) (b.map fun x=>x.ev A)) d rest k A st:=by
  simp [Opv,Ops,vops,vguard,vop,pop,obsOk]
theorem ops_slc3 {size:Nat} {x y q:X} {lo:Option X}:Ops P (⟨d,.slc3 size x lo y q,none,[]⟩ :: rest) k A st=Opv P (vslc3 size (x.ev A) (lo.map fun x=>x.ev A) (y.ev A) (q.ev A)) d rest k A st:=by
  simp [Opv,Ops,vops,vguard,vop,pop,obsOk]
theorem ops_mkm {ag:Bool} {lf:List Lf}:Ops P (⟨d,.mkm ag lf,none,obs⟩ :: rest) k A st=(∀ b,st.sz≤b→obsOk (st.put b [.mp ag lf [] 0]) A obs∧Ops P rest k (putV A d (.sc (.map (some b)))) (st.put b [.mp ag lf [] 0])):=by
  simp [Ops,vops,vguard,vop]
theorem ops_mup {ag:Bool} {lf:List Lf} {x y v:X}:Ops P (⟨d,.mup ag lf x y v,none,obs⟩ :: rest) k A st=Mup P ag lf (x.ev A) (y.ev A) (v.ev A) d obs rest k A st:=_root_.id rfl
theorem mup_map {ag:Bool} {lf:List Lf} {b:Nat} {kv v:V}:Mup P ag lf (.sc (.map (some b))) kv v d obs rest k A st=Mub P (st.box b) ag lf b kv v d obs rest k A st:=_root_.id rfl
theorem mub_some {ag ag':Bool} {lf lf':List Lf} {b c:Nat} {es:List (V × V × Nat)} {kv v:V}:Mub P (some [.mp ag' lf' es c]) ag lf b kv v d obs rest k A st=(ag'=ag∧lf'=lf∧kOk ag lf kv∧Stp P [.mp ag lf (mset kv v c es) (mclk es kv c)] b obs d rest k A st):=_root_.id rfl
theorem ops_mdel {ag:Bool} {lf:List Lf} {x y:X}:Ops P (⟨d,.mdel ag lf x y,none,obs⟩ :: rest) k A st=Mdl P ag lf (x.ev A) (y.ev A) d obs rest k A st:=_root_.id rfl
theorem mdl_nil {ag:Bool} {lf:List Lf} {kv:V}:Mdl P ag lf (.sc (.map none)) kv d obs rest k A st=(kOk ag lf kv∧obsOk st A obs∧Ops P rest k (putV A d (.tup [])) st):=_root_.id rfl
theorem mdl_map {ag:Bool} {lf:List Lf} {b:Nat} {kv:V}:Mdl P ag lf (.sc (.map (some b))) kv d obs rest k A st=Mdb P (st.box b) ag lf b kv d obs rest k A st:=_root_.id rfl
theorem mdb_some {ag ag':Bool} {lf lf':List Lf} {b c:Nat} {es:List (V × V × Nat)} {kv:V}:Mdb P (some [.mp ag' lf' es c]) ag lf b kv d obs rest k A st=(ag'=ag∧lf'=lf∧kOk ag lf kv∧obsOk (st.put b [.mp ag lf (mdel kv es) c]) A obs∧Ops P rest k (putV A d (.tup [])) (st.put b [.mp ag lf (mdel kv es) c])):=_root_.id rfl
theorem ops_rng {x:X}:Ops P (⟨d,.rng x,none,obs⟩ :: rest) k A st=Rng P (x.ev A) d obs rest k A st:=_root_.id rfl
theorem rng_none:Rng P (.sc (.map none)) d obs rest k A st=(∀ r,st.sz≤r→obsOk (st.put r [.it none 0 [] 0]) A obs∧Ops P rest k (putV A d (ptrV r)) (st.put r [.it none 0 [] 0])):=_root_.id rfl
theorem rng_map {b:Nat}:Rng P (.sc (.map (some b))) d obs rest k A st=Rgb P (st.box b) b d obs rest k A st:=_root_.id rfl
theorem rgb_some {ag:Bool} {lf:List Lf} {b c:Nat} {es:List (V × V × Nat)}:Rgb P (some [.mp ag lf es c]) b d obs rest k A st=(∀ r,st.sz≤r→obsOk (st.put r [.it (some b) c [] c]) A obs∧Ops P rest k (putV A d (ptrV r)) (st.put r [.it (some b) c [] c])):=_root_.id rfl
theorem ops_nxt {x:X}:Ops P (⟨d,.nxt x,none,obs⟩ :: rest) k A st=Nxt P (x.ev A) d obs rest k A st:=_root_.id rfl
theorem Nxt.nil {r since last:Nat} {seen:List Nat} (hr:st.box r=some [.it none since seen last]) (h:obsOk st A obs∧Ops P rest k (putV A d (.tup [.sc (.bool false)])) st):Nxt P (ptrV r) d obs rest k A st:=by
  unfold Nxt vnxt ptrV
  simp only [hr]
  exact h
theorem Nxt.mk {r m since last c:Nat} {seen:List Nat} {ag:Bool} {lf:List Lf} {es:List (V × V × Nat)} (hr:st.box r=some [.it (some m) since seen last]) (hm:st.box m=some [.mp ag lf es c]) (h1:∀ e ∈ es,e.2.2 < since) (h2:since≤last)
    (h3:(∀ e ∈ es,e.2.2 ∈ seen)→obsOk st A obs∧Ops P rest k (putV A d (.tup [.sc (.bool false)])) st)
    (h4:∀ e ∈ es,e.2.2 ∉ seen→obsOk (st.put r [.it (some m) since (seen ++ [e.2.2]) c]) A obs∧Ops P rest k (putV A d (.tup [.sc (.bool true),e.1,e.2.1])) (st.put r [.it (some m) since (seen ++ [e.2.2]) c])):Nxt P (ptrV r) d obs rest k A st:=by
  unfold Nxt vnxt ptrV
  simp only [hr,hm]
  exact ⟨h1,h2,h3,h4⟩
theorem ops_ment {ag:Bool} {lf:List Lf} {z:V} {x y:X}:Ops P (⟨d,.ment ag lf z x y,none,obs⟩ :: rest) k A st=Met P ag lf z (x.ev A) (y.ev A) d obs rest k A st:=_root_.id rfl
theorem met_map {ag:Bool} {lf:List Lf} {z:V} {b:Nat} {kv:V}:Met P ag lf z (.sc (.map (some b))) kv d obs rest k A st=Meb P (st.box b) ag lf z b kv d obs rest k A st:=_root_.id rfl
theorem meb_some {ag ag':Bool} {lf lf':List Lf} {z:V} {b c:Nat} {es:List (V × V × Nat)} {kv:V}:Meb P (some [.mp ag' lf' es c]) ag lf z b kv d obs rest k A st=(ag'=ag∧lf'=lf∧kOk ag lf kv∧obsOk (st.put b [.mp ag lf (mset kv ((mfind kv es).getD z) c es) (mclk es kv c)]) A obs∧Ops P rest k (putV A d (.tup [(mfind kv es).getD z,.sc (.int .i64 (mborn kv c es))])) (st.put b [.mp ag lf (mset kv ((mfind kv es).getD z) c es) (mclk es kv c)])):=_root_.id rfl
theorem ops_est {x s v:X}:Ops P (⟨d,.est x s v,none,obs⟩ :: rest) k A st=Est P (x.ev A) (s.ev A) (v.ev A) d obs rest k A st:=_root_.id rfl
theorem est_map {b:Nat} {n:Int} {v:V}:Est P (.sc (.map (some b))) (.sc (.int .i64 n)) v d obs rest k A st=(0≤n∧Esb P (st.box b) b n.toNat v d obs rest k A st):=_root_.id rfl
theorem esb_some {ag:Bool} {lf:List Lf} {b s c:Nat} {es:List (V × V × Nat)} {v:V}:Esb P (some [.mp ag lf es c]) b s v d obs rest k A st=((∃ e ∈ es,e.2.2=s)∧Stp P [.mp ag lf (mstamp s v es) c] b obs d rest k A st):=_root_.id rfl
theorem ops_clr {size:Nat} {z:List V} {x:X}:Ops P (⟨d,.clr size z x,none,obs⟩ :: rest) k A st=Clr P size z (x.ev A) d obs rest k A st:=_root_.id rfl
theorem clr_nil {size:Nat} {z:List V} {own:Tk}:Clr P size z (.sl own []) d obs rest k A st=(obsOk st A obs∧Ops P rest k (putV A d (.tup [])) st):=_root_.id rfl
theorem clr_box {size:Nat} {z:List V} {b o n c:Nat}:Clr P size z (.sc (.slice (some ⟨b,o,none⟩) n c)) d obs rest k A st=Clb P (st.box b) size z b o n d obs rest k A st:=_root_.id rfl
theorem clb_some {size:Nat} {z:List V} {b o n:Nat} {cs:List V}:Clb P (some cs) size z b o n d obs rest k A st=(o + n * size≤cs.length∧mono cs∧obsOk (st.put b (splice cs o (List.replicate n z).flatten)) A obs∧Ops P rest k (putV A d (.tup [])) (st.put b (splice cs o (List.replicate n z).flatten))):=_root_.id rfl
theorem ops_calv {x:X} {args:List X}:Ops P (⟨d,.calv x args,none,obs⟩ :: rest) k A st=Clv P (x.ev A) (args.map fun x=>x.ev A) d obs rest k A st:=_root_.id rfl
theorem clv_func {f:FuncId} {first cap:Array Value} {args:List V}:Clv P (.sc (.func (.func f) first cap)) args d obs rest k A st=(callable P f=true∧(∀ v ∈ first.toList ++ cap.toList,v.oneCell'=true)∧Cal P f (first.toList.map V.sc ++ args ++ cap.toList.map V.sc) d obs rest k A st):=_root_.id rfl
theorem Cal.mk {f:FuncId} {args:List V} {Q:V→St→Prop} (h:VCalls P f args st Q) (hk:∀ r st',Q r st'→r.Ok→obsOk st' A obs∧Ops P rest k (putV A d r) st'):Cal P f args d obs rest k A st:=h.mono fun r st' hq hok=>hk r st' hq hok
theorem ops_aidxn {n size:Nat} {x y:X}:Ops P (⟨d,.aidxn n size x y,none,[]⟩ :: rest) k A st=Opv P (vaidxn n size (x.ev A) (y.ev A)) d rest k A st:=by
  simp [Opv,Ops,vops,vguard,vop,pop,obsOk]
theorem ops_fv {off:Nat} {size:Option Nat} {x:X}:Ops P (⟨d,.fv off size x,none,[]⟩ :: rest) k A st=Opv P (vfv off size (x.ev A)) d rest k A st:=by
  simp [Opv,Ops,vops,vguard,vop,pop,obsOk]
theorem ops_mki {t:TypeId} {x:X}:Ops P (⟨d,.mki t x,none,[]⟩ :: rest) k A st=Opv P (vmki t (x.ev A)) d rest k A st:=by
  simp [Opv,Ops,vops,vguard,vop,pop,obsOk]
theorem ops_inv {name:String} {x:X} {args:List X}:Ops P (⟨d,.inv name x args,none,obs⟩ :: rest) k A st=Ivk P name (x.ev A) (args.map fun x=>x.ev A) d obs rest k A st:=_root_.id rfl
theorem Ivk.mk {name:String} {t:TypeId} {v:Value} {f:FuncId} {args:List V} (hm:methOf P t name=some f) (hc:callable P f=true) (ho:v.oneCell'=true) (h:Cal P f (.sc v :: args) d obs rest k A st):Ivk P name (.sc (.iface t v)) args d obs rest k A st:=⟨f,hm,hc,ho,h⟩
theorem ops_cpy {size:Nat} {x y:X}:Ops P (⟨d,.cpy size x y,none,obs⟩ :: rest) k A st=Cpy P size (x.ev A) (y.ev A) d obs rest k A st:=by
  unfold Cpy
  simp only [Ops,vops,vguard,vop,vcpy]
  all_goals rfl
theorem cpy_box {size b o n c b2 o2 m c2:Nat}:Cpy P size (.sc (.slice (some ⟨b,o,none⟩) n c)) (.sc (.slice (some ⟨b2,o2,none⟩) m c2)) d obs rest k A st=Cpb P (st.box b) (st.box b2) size b o n o2 m d obs rest k A st:=_root_.id rfl
theorem cpb_some {size b o n o2 m:Nat} {cs ds:List V}:Cpb P (some cs) (some ds) size b o n o2 m d obs rest k A st=(mono cs∧mono ds∧o + n * size≤cs.length∧o2 + m * size≤ds.length∧obsOk (st.put b (splice cs o ((ds.drop o2).take (min m n * size)))) A obs ∧
    Ops P rest k (putV A d (.sc (.int .i64 (min m n:Nat)))) (st.put b (splice cs o ((ds.drop o2).take (min m n * size))))):=_root_.id rfl
theorem App.full {size bytes:Nat} {tk:Tk} {l ys:List V} (hl:allSz size l) (hys:allSz size ys) (h0:0 < ys.length) (h1:l.length + ys.length≤maxLen) (h2:(l.length + ys.length) * bytes≤140737488355328)
    (hk:∀ r st',Own size st' r (l ++ ys)→AppSt st (.sl .full l) st' r→obsOk st' A obs∧Ops P rest k (putV A d r) st'):App P size bytes (.sl .full l) (.sl tk ys) d obs rest k A st:=.inr (.inr (.inr ⟨l,ys,rfl,hl,.inl ⟨tk,rfl⟩,hys,h0,h1,h2,hk⟩))
theorem App.mk {size bytes:Nat} {x:V} {tk:Tk} {l ys:List V} (hown:Own size st x l) (hys:allSz size ys) (h1:l.length + ys.length≤maxLen) (h2:(l.length + ys.length) * bytes≤140737488355328)
    (hk:∀ r st',Own size st' r (l ++ ys)→AppSt st x st' r→obsOk st' A obs∧Ops P rest k (putV A d r) st'):App P size bytes x (.sl tk ys) d obs rest k A st:=.inl ⟨l,ys,hown,.inl ⟨tk,rfl⟩,hys,h1,h2,hk⟩
theorem App.box {size bytes:Nat} {x:V} {l ys:List V} {b o n c:Nat} {cs:List V} (hown:Own size st x l) (hb:st.box b=some cs) (hn:ys.length=n) (hfit:o + n * size≤cs.length) (he:(cs.drop o).take (n * size)=ys.flatMap V.cells) (hmo:mono cs) (hys:allSz size ys) (h1:l.length + n≤maxLen) (h2:(l.length + n) * bytes≤140737488355328)
    (hk:∀ r st',Own size st' r (l ++ ys)→AppSt st x st' r→obsOk st' A obs∧Ops P rest k (putV A d r) st'):App P size bytes x (.sc (.slice (some ⟨b,o,none⟩) n c)) d obs rest k A st:=by
  subst hn
  exact .inl ⟨l,ys,hown,.inr ⟨b,o,c,cs,rfl,hb,hfit,he,hmo⟩,hys,h1,h2,hk⟩
theorem App.mut {size bytes:Nat} {tk:Tk} {ys:List V} {b n cap:Nat} {cs:List V} (hb:st.box b=some cs) (hl:cs.length=cap * size) (hmo:mono cs) (hn:n≤cap) (hc:cap≤maxLen) (hys:allSz size ys) (h1:n + ys.length≤maxLen) (h2:(n + ys.length) * bytes≤140737488355328)
    (hk:∀ b' cap' spare,(b'=b ∨ st.sz≤b')→n + ys.length≤cap'→cap'≤maxLen→(n + ys.length) * size + spare.length=cap' * size→(n + ys.length≤cap→b'=b∧cap'=cap∧spare=cs.drop ((n + ys.length) * size))→mono (cs.take (n * size) ++ ys.flatMap V.cells ++ spare)→obsOk (st.put b' (cs.take (n * size) ++ ys.flatMap V.cells ++ spare)) A obs ∧
      Ops P rest k (putV A d (.sc (.slice (some ⟨b',0,none⟩) (n + ys.length) cap'))) (st.put b' (cs.take (n * size) ++ ys.flatMap V.cells ++ spare))):App P size bytes (.sc (.slice (some ⟨b,0,none⟩) n cap)) (.sl tk ys) d obs rest k A st :=
  .inr (.inl ⟨b,n,cap,cs,ys,rfl,hb,hl,hmo,hn,hc,.inl ⟨tk,rfl⟩,hys,h1,h2,hk⟩)
theorem App.new {size bytes:Nat} {tk:Tk} {ys:List V} (hys:allSz size ys) (h0:0 < ys.length) (h1:ys.length≤maxLen) (h2:ys.length * bytes≤140737488355328)
    (hk:∀ b' cap' spare,st.sz≤b'→ys.length≤cap'→cap'≤maxLen→ys.length * size + spare.length=cap' * size→mono (ys.flatMap V.cells ++ spare)→obsOk (st.put b' (ys.flatMap V.cells ++ spare)) A obs ∧
      Ops P rest k (putV A d (.sc (.slice (some ⟨b',0,none⟩) ys.length cap'))) (st.put b' (ys.flatMap V.cells ++ spare))):App P size bytes (.sl .nil []) (.sl tk ys) d obs rest k A st :=
  .inr (.inr (.inl ⟨ys,rfl,.inl ⟨tk,rfl⟩,hys,h0,h1,h2,hk⟩))
theorem Bo.own {size:Nat} {cs:List V} (h:allLen size cs) (hk:∀ g,st.sz≤g→obsOk (st.use g cs.length) A obs∧Ops P rest k (putV A d (.sl (.own g size) cs)) (st.use g cs.length)):Bo P size cs d obs rest k A st:=⟨h,.inl hk⟩
theorem Bo.mut {size:Nat} {cs:List V} (h:allLen size cs) (hk:∀ b,st.sz≤b→obsOk (st.put b (cs.flatMap V.cells)) A obs∧Ops P rest k (putV A d (.sc (.slice (some ⟨b,0,none⟩) cs.length cs.length))) (st.put b (cs.flatMap V.cells))):Bo P size cs d obs rest k A st:=⟨h,.inr hk⟩
end
theorem ev_t {n:Nat}:X.ev A (.t n)=A n:=_root_.id rfl
theorem ev_c {v:V}:X.ev A (.c v)=v:=_root_.id rfl
theorem put_get {d:Nat} {v:V} {t:Nat}:putV A (some d) v t=if t=d then v else A t:=_root_.id rfl
theorem opv_mk {p:Prop} {v:V} {d:Option Nat} {rest:List VO}:Opv P (p,v) d rest k A st=(p∧Ops P rest k (putV A d v) st):=_root_.id rfl
theorem stb_some {cs:List V} {size b o:Nat} {ds:List V} {obs:List (Option Nat × X × Nat)} {d:Option Nat} {rest:List VO}:Stb P (some cs) size b o ds obs d rest k A st=(ds.length=size∧0 < size∧o + size≤cs.length∧mono cs∧Stp P (splice cs o ds) b obs d rest k A st):=_root_.id rfl
theorem sto_ptr {size b o:Nat} {y:V} {obs:List (Option Nat × X × Nat)} {d:Option Nat} {rest:List VO}:Sto P size (.sc (.pointer (some ⟨b,o,none⟩))) y obs d rest k A st=Stb P (st.box b) size b o y.cells obs d rest k A st:=_root_.id rfl
theorem over_get {ws:List Nat} {B:Nat→V} {t:Nat}:over ws B A t=if ws.contains t=true then B t else A t:=by simp only [over,List.contains_eq_mem,decide_eq_true_eq]
theorem mono_nil:mono []=True:=_root_.id rfl
theorem mono_two {a b:V} {l:List V}:mono (a :: b :: l)=True:=_root_.id rfl
theorem mono_sc {v:Value} {l:List V}:mono (.sc v :: l)=True:=by cases l <;> simp [mono,V.ob]
theorem mono_any {l:List V}:mono (.any :: l)=True:=by cases l <;> simp [mono,V.ob]
theorem mono_und {l:List V}:mono (.und :: l)=True:=by cases l <;> simp [mono,V.ob]
theorem mono_sl {o:Tk} {v l:List V}:mono (.sl o v :: l)=True:=by cases l <;> simp [mono,V.ob]
theorem mono_agg {v l:List V}:mono (.agg v :: l)=True:=by cases l <;> simp [mono,V.ob]
theorem mono_ep {v l:List V} {o:Nat}:mono (.ep v o :: l)=True:=by cases l <;> simp [mono,V.ob]
theorem mono_len {cs:List V} (h:cs.length ≠ 1):mono cs:=by
  unfold mono
  split
  · simp at h
  · trivial
theorem mono_all {cs:List V} (h:∀ c ∈ cs,c.ob=false):mono cs:=by
  unfold mono
  split
  · exact h _ (by simp)
  · trivial
theorem put_none {v:V}:putV A none v=A:=_root_.id rfl
theorem put_box_same {b:Nat} {cs:List V}:(st.put b cs).box b=some cs:=by simp [St.put]
theorem put_box_ne {b c:Nat} {cs:List V} (h:c ≠ b):(st.put b cs).box c=st.box c:=by simp [St.put,h]
theorem put_sz {b:Nat} {cs:List V}:(st.put b cs).sz=max st.sz (b + 1):=_root_.id rfl
theorem put_own {b:Nat} {cs:List V}:(st.put b cs).own=st.own:=_root_.id rfl
theorem use_box {g m:Nat}:(st.use g m).box=st.box:=_root_.id rfl
theorem use_sz {g m:Nat}:(st.use g m).sz=max st.sz (g + 1):=_root_.id rfl
theorem put_put {b:Nat} {cs ds:List V}:(st.put b cs).put b ds=st.put b ds:=by
  simp only [St.put,St.mk.injEq,true_and]
  refine ⟨funext fun x=>?_,by omega⟩
  split <;> rfl
theorem emod_small {a m:Int} (h0:0≤a) (h1:a < m):a % m=a:=Int.emod_eq_of_lt h0 h1
theorem St.Wf.weak {s:St} (h:s.Wf):s.weak s:=⟨fun b cs hb=>⟨hb,h.box b cs hb⟩,fun g m hg=>⟨hg,h.own g m hg⟩,Nat.le_refl _⟩
structure St.Lt (s:St):Prop where
  box:∀ b cs,s.box b=some cs→b < s.sz
  own:∀ g m,s.own g=some m→g < s.sz
theorem St.Wf.lt {s:St} (h:s.Wf):s.Lt:=⟨h.box,h.own⟩
theorem St.Lt.put {s:St} (h:s.Lt) {b:Nat} {cs:List V}:(s.put b cs).Lt:=⟨fun c ds hc=>by
    simp only [St.put] at hc ⊢
    split at hc
    · omega
    · have:=h.box c ds hc; omega,fun g m hg=>by have:=h.own g m hg; simp only [put_sz]; omega⟩
theorem St.Lt.use {s:St} (h:s.Lt) {g m:Nat}:(s.use g m).Lt:=⟨fun c ds hc=>by have:=h.box c ds hc; simp only [use_sz]; omega,use_lt h.own⟩
theorem St.Lt.app {s s':St} {x r:V} (h:s.Lt) (k:AppSt s x s' r):s'.Lt:=⟨fun b cs hb=>by rw [k.box] at hb; have:=h.box b cs hb; have:=k.sz; omega,k.lt h.own⟩
theorem St.Lt.weak {s:St} (h:s.Lt):s.weak s:=⟨fun b cs hb=>⟨hb,h.box b cs hb⟩,fun g m hg=>⟨hg,h.own g m hg⟩,Nat.le_refl _⟩
theorem AppSt.over {s s':St} {r:V} (h:AppSt s (.sl .nil []) s' r) (hl:s.Lt):s.weak s' :=
  ⟨fun b cs hb=>⟨by rw [h.box]; exact hb,hl.box b cs hb⟩,fun g m hg=>⟨h.own g m hg (fun l k e=>by cases e),hl.own g m hg⟩,h.sz⟩
theorem AppSt.weak {s s':St} {x r:V} (h:AppSt s x s' r) (hw:s.Wf):s'.weak s' :=
  ⟨fun b cs hb=>⟨hb,by rw [h.box] at hb; have:=hw.box b cs hb; have:=h.sz; omega⟩,fun g m hg=>⟨hg,h.lt hw.own g m hg⟩,Nat.le_refl _⟩
theorem AppSt.trans {a b c:St} {x y z:V} (hw:a.Wf) (h:AppSt a x b y) (k:AppSt b y c z):AppSt a x c z :=
  ⟨k.box.trans h.box,fun hh=>k.lt (h.lt hh),Nat.le_trans h.sz k.sz,fun g m hg hne=>k.own g m (h.own g m hg hne) (fun l q e=>by
    rcases h.tok g q l e with ⟨l',h2⟩ | h2
    · exact hne l' q h2
    · exact absurd (hw.own g m hg) (by omega)),fun g q l e=>by
    rcases k.tok g q l e with ⟨l',h2⟩ | h2
    · rcases h.tok g q l' h2 with h3 | h3
      · exact .inl h3
      · exact .inr h3
    · exact .inr (Nat.le_trans h.sz h2)⟩
theorem weak_put {s t:St} {b:Nat} {cs:List V} (h:s.weak t) (hb:s.sz≤b):s.weak (t.put b cs) :=
  ⟨fun c ds hc=>⟨by rw [put_box_ne (by have:=(h.box c ds hc).2; omega)]; exact (h.box c ds hc).1,(h.box c ds hc).2⟩,fun g m hg=>h.own g m hg,by have:=h.sz; simp only [put_sz]; omega⟩
theorem weak_use {s t:St} {g m:Nat} (h:s.weak t) (hb:s.sz≤g):s.weak (t.use g m) :=
  ⟨fun c ds hc=>h.box c ds hc,fun g' m' hg=>⟨by have:=h.own g' m' hg; simp only [St.use]; rw [if_neg (by omega)]; exact this.1,(h.own g' m' hg).2⟩,by have:=h.sz; simp only [use_sz]; omega⟩
theorem Wk.no {own:Tk} {l:List V}:Wk (.sl own l) (.sl .no l):=fun G v h=>by
  cases h with
  | nil own ho=>exact .nil .no (fun g k e=>by cases e)
  | emp a cap hm own he=>exact .emp a cap hm
  | sl own l b o k cap u hk hF h1 hr hcap hm ho hown=>exact .sl .no l b o k cap u hk hF h1 hr hcap hm (by simp) (fun g k' e=>by cases e)
def VO.w (o:VO):List Nat:=o.dst.toList
def VC.writes:VC→List Nat
  | .reg ops=>ops.flatMap VO.w
  | .seq a b=>a.writes ++ b.writes
  | .cond _ a b=>a.writes ++ b.writes
  | .blk _ c=>c.writes
  | .loop c=>c.writes
  | _=>[]
theorem vop_mono {o:VOp} {K K':V→St→Prop} (h:vop P o st A K) (hk:∀ r s,K r s→K' r s):vop P o st A K':=by
  cases o <;> simp only [vop] at h ⊢
  case box x=>exact ⟨h.1,fun b hb=>hk _ _ (h.2 b hb)⟩
  case alc z=>exact fun b hb=>hk _ _ (h b hb)
  case alcX z=>exact fun b h1 h2=>hk _ _ (h b h1 h2)
  case boxX x=>exact ⟨h.1,fun b h1 h2=>hk _ _ (h.2 b h1 h2)⟩
  case bslo size xs=>exact ⟨h.1,h.2.imp (fun h b hb=>hk _ _ (h b hb)) (fun h b hb=>hk _ _ (h b hb))⟩
  case store size x y =>
    unfold vstore at h ⊢
    split at h
    · split at h
      · exact ⟨h.1,h.2.1,h.2.2.1,h.2.2.2.1,hk _ _ h.2.2.2.2⟩
      · exact h
    · exact h
  case mkm ag lf=>exact fun b hb=>hk _ _ (h b hb)
  case mup ag lf x y v =>
    unfold vmup at h ⊢
    split at h
    · split at h
      · exact ⟨h.1,h.2.1,h.2.2.1,hk _ _ h.2.2.2⟩
      · exact h
    · exact h
  case mdel ag lf x y =>
    unfold vmdel at h ⊢
    split at h
    · exact ⟨h.1,hk _ _ h.2⟩
    · split at h
      · exact ⟨h.1,h.2.1,h.2.2.1,hk _ _ h.2.2.2⟩
      · exact h
    · exact h
  case rng x =>
    unfold vrng at h ⊢
    split at h
    · exact fun r hr=>hk _ _ (h r hr)
    · split at h
      · exact fun r hr=>hk _ _ (h r hr)
      · exact h
    · exact h
  case nxt x =>
    unfold vnxt at h ⊢
    split at h
    · split at h
      · exact hk _ _ h
      · split at h
        · exact ⟨h.1,h.2.1,fun j=>hk _ _ (h.2.2.1 j),fun e he hn=>hk _ _ (h.2.2.2 e he hn)⟩
        · exact h
      · exact h
    · exact h
  case ment ag lf z x y =>
    unfold vment at h ⊢
    split at h
    · split at h
      · exact ⟨h.1,h.2.1,h.2.2.1,hk _ _ h.2.2.2⟩
      · exact h
    · exact h
  case est x s v =>
    unfold vest at h ⊢
    split at h
    · refine ⟨h.1,?_⟩
      have h2:=h.2
      split at h2
      · exact ⟨h2.1,hk _ _ h2.2⟩
      · exact h2
    · exact h
  case clr size z x =>
    unfold vclr at h ⊢
    split at h
    · exact hk _ _ h
    · split at h
      · exact ⟨h.1,h.2.1,hk _ _ h.2.2⟩
      · exact h
    · exact h
  case inv name x args =>
    unfold vinv at h ⊢
    split at h
    · obtain ⟨f,h1,h2,h3,h4⟩:=h
      exact ⟨f,h1,h2,h3,h4.mono fun r s h hok=>hk _ _ (h hok)⟩
    · exact h
  case cpy size x y =>
    unfold vcpy at h ⊢
    split at h
    · split at h
      · exact ⟨h.1,h.2.1,h.2.2.1,h.2.2.2.1,hk _ _ h.2.2.2.2⟩
      · exact h
    · exact h
  case calv x args =>
    unfold vcalv at h ⊢
    split at h
    · exact ⟨h.1,h.2.1,h.2.2.mono fun r s h hok=>hk _ _ (h hok)⟩
    · exact h
  case mks size bytes z x =>
    unfold vmks at h ⊢
    split at h
    · exact ⟨h.1,h.2.1,h.2.2.1,fun b hb=>hk _ _ (h.2.2.2 b hb)⟩
    · exact h
  case mko size bytes z x =>
    unfold vmko at h ⊢
    split at h
    · exact ⟨h.1,h.2.1,h.2.2.1,h.2.2.2.imp (fun h b hb=>hk _ _ (h b hb)) (fun h b hb=>hk _ _ (h b hb))⟩
    · exact h
  case app size bytes x y =>
    rcases h with ⟨l,ys,h1,h2,h3,h4,h5,h6⟩ | ⟨b,n,cap,cs,ys,h1,h2,h3,hm,h4,h5,h6,h7,h8,h9,h10⟩ | ⟨ys,h1,h2,h3,h4,h5,h6,h7⟩ | ⟨l,ys,h1,h2,h3,h4,h5,h6,h7,h8⟩
    · exact .inl ⟨l,ys,h1,h2,h3,h4,h5,fun r s k1 k2=>hk _ _ (h6 r s k1 k2)⟩
    · exact .inr (.inl ⟨b,n,cap,cs,ys,h1,h2,h3,hm,h4,h5,h6,h7,h8,h9,fun b' cap' spare k1 k2 k3 k4 k5 k6=>hk _ _ (h10 b' cap' spare k1 k2 k3 k4 k5 k6)⟩)
    · exact .inr (.inr (.inl ⟨ys,h1,h2,h3,h4,h5,h6,fun b' cap' spare k1 k2 k3 k4 k5=>hk _ _ (h7 b' cap' spare k1 k2 k3 k4 k5)⟩))
    · exact .inr (.inr (.inr ⟨l,ys,h1,h2,h3,h4,h5,h6,h7,fun r s k1 k2=>hk _ _ (h8 r s k1 k2)⟩))
  case appx size bytes z x y =>
    refine ⟨h.1,?_⟩
    rcases h.2 with ⟨l,ys,h1,h2,h3,h4,h5,h6⟩ | ⟨b,n,cap,cs,ys,h1,h2,h3,hm,h4,h5,h6,h7,h8,h9,h10⟩ | ⟨ys,h1,h2,h3,h4,h5,h6,h7⟩ | ⟨l,ys,h1,h2,h3,h4,h5,h6,h7,h8⟩
    · exact .inl ⟨l,ys,h1,h2,h3,h4,h5,fun r s k1 k2=>hk _ _ (h6 r s k1 k2)⟩
    · exact .inr (.inl ⟨b,n,cap,cs,ys,h1,h2,h3,hm,h4,h5,h6,h7,h8,h9,fun b' cap' spare k1 k2 k3 k4 k5 k6=>hk _ _ (h10 b' cap' spare k1 k2 k3 k4 k5 k6)⟩)
    · exact .inr (.inr (.inl ⟨ys,h1,h2,h3,h4,h5,h6,fun b' cap' spare k1 k2 k3 k4 k5=>hk _ _ (h7 b' cap' spare k1 k2 k3 k4 k5)⟩))
    · exact .inr (.inr (.inr ⟨l,ys,h1,h2,h3,h4,h5,h6,h7,fun r s k1 k2=>hk _ _ (h8 r s k1 k2)⟩))
  case call f args=>exact h.mono fun r s h hok=>hk _ _ (h hok)
  all_goals exact ⟨h.1,hk _ _ h.2⟩
theorem vops_writes (ws:List Nat) (A0:Nat→V) {K K':(Nat→V)→St→Prop} (hk:∀ A st,(∀ t,t ∉ ws→A t=A0 t)→K A st→K' A st):∀ (ops:List VO),(∀ t ∈ ops.flatMap VO.w,t ∈ ws)→∀ {A:Nat→V} {st:St},(∀ t,t ∉ ws→A t=A0 t)→vops P K ops A st→vops P K' ops A st
  | [],_,A,st,hA,h=>hk A st hA h
  | o :: ops,hw,A,st,hA,h=>by
    have hput:∀ r,∀ t,t ∉ ws→putV A o.dst r t=A0 t:=fun r t ht=>by
      cases hd:o.dst with
      | none=>exact hA t ht
      | some d =>
        simp only [putV]
        rw [if_neg (fun e=>ht (hw t (by subst e; simp [VO.w,hd])))]
        exact hA t ht
    have again:=fun {A:Nat→V} {st:St}=>vops_writes ws A0 hk ops (fun t ht=>hw t (by simp only [List.flatMap_cons,List.mem_append]; exact .inr ht)) (A:=A) (st:=st)
    simp only [vops] at h ⊢
    unfold vguard at h ⊢
    split at h
    · exact vop_mono h fun r s h=>⟨h.1,again (hput r) h.2⟩
    · split at h
      · exact ⟨fun e=>vop_mono (h.1 e) fun r s h=>⟨h.1,again (hput r) h.2⟩,fun e=>again (hput _) (h.2 e)⟩
      · exact again (hput _) h
      · exact h
theorem vwp_writes (ws:List Nat) (A0:Nat→V):∀ (c:VC),(∀ t ∈ c.writes,t ∈ ws)→∀ {Q Q':VQ} (_:∀ e A st,(∀ t,t ∉ ws→A t=A0 t)→Q e A st→Q' e A st) {A:Nat→V} {st:St},(∀ t,t ∉ ws→A t=A0 t)→vwp P c Q A st→vwp P c Q' A st:=by
  intro c
  induction c with
  | skip=>intro _ Q Q' hq A st hA h; exact hq _ _ _ hA h
  | reg ops=>intro hw Q Q' hq A st hA h; exact vops_writes ws A0 (fun A st=>hq .normal A st) ops hw hA h
  | seq a b iha ihb =>
    intro hw Q Q' hq A st hA h
    simp only [VC.writes,List.mem_append] at hw
    refine iha (fun t ht=>hw t (.inl ht)) (fun e A st hA h=>?_) hA h
    cases e with
    | normal=>exact ihb (fun t ht=>hw t (.inr ht)) hq hA h
    | exit id=>exact hq _ _ _ hA h
    | ret=>exact hq _ _ _ hA h
  | cond c a b iha ihb =>
    intro hw Q Q' hq A st hA h
    simp only [VC.writes,List.mem_append] at hw
    simp only [vwp] at h ⊢
    split at h
    · exact ⟨fun e=>iha (fun t ht=>hw t (.inl ht)) hq hA (h.1 e),fun e=>ihb (fun t ht=>hw t (.inr ht)) hq hA (h.2 e)⟩
    · exact h
  | blk id c ih =>
    intro hw Q Q' hq A st hA h
    refine ih hw (fun e A st hA h=>?_) hA h
    cases e with
    | normal=>exact hq _ _ _ hA h
    | ret=>exact hq _ _ _ hA h
    | exit i =>
      simp only [VQ.blk] at h ⊢
      split at h
      · rename_i e; rw [if_pos e]; exact hq _ _ _ hA h
      · rename_i e; rw [if_neg e]; exact hq _ _ _ hA h
  | loop c ih =>
    intro hw Q Q' hq A st hA h
    obtain ⟨I,μ,h0,hr⟩:=h
    refine ⟨fun A st=>I A st∧∀ t,t ∉ ws→A t=A0 t,μ,⟨h0,hA⟩,fun A st hI=>ih hw (fun e A' st' hA' h=>?_) hI.2 (hr A st hI.1)⟩
    cases e with
    | normal=>exact ⟨⟨h.1,hA'⟩,h.2⟩
    | exit id=>exact hq _ _ _ hA' h
    | ret=>exact hq _ _ _ hA' h
  | exit id=>intro _ Q Q' hq A st hA h; exact hq _ _ _ hA h
  | ret=>intro _ Q Q' hq A st hA h; exact hq _ _ _ hA h
def vnat:V→Nat
  | .sc (.int _ n)=>n.toNat
  | _=>0
def Rel (I:(Nat→V)→St→Prop) (μ:(Nat→V)→St→Nat) (n:Nat) (A:Nat→V) (st:St):Prop:=I A st∧μ A st < n
theorem rel_mk {I:(Nat→V)→St→Prop} {μ:(Nat→V)→St→Nat} {n:Nat}:Rel I μ n A st=(I A st∧μ A st < n):=_root_.id rfl
theorem run_loop {c:VC} (ws:List Nat) (I:(Nat→V)→St→Prop) (μ:(Nat→V)→St→Nat) (hw:(c.writes.all fun t=>ws.contains t)=true) (h0:I A st)
    (h:∀ B s,I B s→Run P c (.rnd (Rel I μ (μ B s)) k) (over ws B A) s):Run P (.loop c) k A st:=by
  have hw':∀ t ∈ c.writes,t ∈ ws:=fun t ht=>by
    have:=List.all_eq_true.1 hw t ht
    simpa using this
  refine ⟨fun B s=>I B s∧∀ t,t ∉ ws→B t=A t,μ,⟨h0,fun t _=>rfl⟩,fun B s hB=>?_⟩
  have e:over ws B A=B:=funext fun t=>by
    simp only [over]
    split
    · rfl
    · rename_i ht; exact (hB.2 t ht).symm
  have:=h B s hB.1
  rw [e] at this
  refine vwp_writes ws A c hw' (fun e A' st' hA' hq=>?_) hB.2 this
  cases e with
  | normal=>exact ⟨⟨hq.1,hA'⟩,hq.2⟩
  | exit id=>exact hq
  | ret=>exact hq
end
end
section
open Go
def beL (n:Int):Nat→List Int
  | 0=>[]
  | k + 1=>(n / 256 ^ k % 256) :: beL n k
def numL (L:List Int):Int:=L.foldl (fun n c=>256 * n + c) 0
def IsB (L:List Int):Prop:=∀ x ∈ L,0≤x∧x < 256
theorem beL_len (n:Int):∀ k,(beL n k).length=k
  | 0=>rfl
  | k + 1=>by simp [beL,beL_len n k]
theorem beL_isB (n:Int):∀ k,IsB (beL n k)
  | 0=>fun x hx=>by simp [beL] at hx
  | k + 1=>fun x hx=>by
    simp only [beL,List.mem_cons] at hx
    rcases hx with rfl | hx
    · omega
    · exact beL_isB n k x hx
theorem IsB.append {L M:List Int} (h:IsB L) (h':IsB M):IsB (L ++ M):=fun x hx=>by
  rcases List.mem_append.1 hx with h1 | h1
  · exact h x h1
  · exact h' x h1
theorem IsB.take {L:List Int} (h:IsB L) (k:Nat):IsB (L.take k):=fun x hx=>h x (List.mem_of_mem_take hx)
theorem IsB.drop {L:List Int} (h:IsB L) (k:Nat):IsB (L.drop k):=fun x hx=>h x (List.mem_of_mem_drop hx)
theorem IsB.get {L:List Int} (h:IsB L) {i:Nat} {x:Int} (hx:L[i]?=some x):0≤x∧x < 256:=h x (List.mem_of_getElem? hx)
theorem numL_nil:numL []=0:=rfl
theorem numL_snoc (L:List Int) (c:Int):numL (L ++ [c])=256 * numL L + c:=by simp [numL]
theorem pow256_pos (k:Nat):(0:Int) < 256 ^ k:=Int.pow_pos (by omega)
theorem numL_range:∀ (n:Nat) (L:List Int),L.length=n→IsB L→0≤numL L∧numL L < 256 ^ L.length
  | 0,L,hn,_=>by
    obtain rfl:=List.eq_nil_of_length_eq_zero hn
    simp [numL]
  | n + 1,L,hn,h=>by
    have hne:L ≠ []:=by rintro rfl; simp at hn
    obtain ⟨M,c,rfl⟩:∃ M c,L=M ++ [c]:=⟨L.dropLast,L.getLast hne,(List.dropLast_concat_getLast hne).symm⟩
    have hM:M.length=n:=by simpa using hn
    obtain ⟨h1,h2⟩:=numL_range n M hM (fun x hx=>h x (by simp [hx]))
    obtain ⟨h3,h4⟩:=h c (by simp)
    rw [numL_snoc,List.length_append,List.length_singleton,Int.pow_succ]
    omega
theorem numL_cons (c:Int):∀ (L:List Int),numL (c :: L)=c * 256 ^ L.length + numL L:=by
  have h:∀ (L:List Int) (a:Int),L.foldl (fun n c=>256 * n + c) a=a * 256 ^ L.length + L.foldl (fun n c=>256 * n + c) 0:=by
    intro L
    induction L with
    | nil=>intro a; simp
    | cons x L ih =>
      intro a
      simp only [List.foldl_cons,List.length_cons]
      rw [ih (256 * a + x),ih (256 * 0 + x),Int.pow_succ]
      simp only [Int.add_mul,Int.mul_zero,Int.zero_add]
      rw [show 256 * a * 256 ^ L.length=a * (256 ^ L.length * 256) from by rw [Int.mul_comm 256 a,Int.mul_assoc,Int.mul_comm 256]]
      omega
  intro L
  unfold numL
  rw [List.foldl_cons,h L (256 * 0 + c)]
  simp
theorem emod_mul_256 (n m:Int) (hm:0 < m):n % (m * 256)=n % m + m * (n / m % 256):=by
  have e1:=Int.mul_ediv_add_emod n m
  have e2:=Int.mul_ediv_add_emod (n / m) 256
  have b1:=Int.emod_nonneg n (show m ≠ 0 by omega)
  have b2:=Int.emod_lt_of_pos n hm
  have b3:=Int.emod_nonneg (n / m) (show (256:Int) ≠ 0 by omega)
  have b4:=Int.emod_lt_of_pos (n / m) (show (0:Int) < 256 by omega)
  generalize n % m=r at *
  generalize n / m % 256=s at *
  generalize n / m / 256=q at *
  have e3:m * (256 * q + s)=m * 256 * q + m * s:=by rw [Int.mul_add,Int.mul_assoc]
  have h1:0≤m * s:=Int.mul_nonneg (by omega) b3
  have h2:m * s≤m * 255:=Int.mul_le_mul_of_nonneg_left (by omega) (by omega)
  have e4:n=r + m * s + m * 256 * q:=by rw [← e1,← e2,e3]; omega
  rw [e4,Int.add_mul_emod_self_left,Int.emod_eq_of_lt (by omega) (by omega)]
theorem numL_beL (n:Int) (hn:0≤n):∀ k,numL (beL n k)=n % 256 ^ k
  | 0=>by simp [beL,numL,Int.emod_one]
  | k + 1=>by
    rw [beL,numL_cons,beL_len,numL_beL n hn k,Int.pow_succ]
    have e:=Int.emod_emod_of_dvd n (show (256 ^ k:Int) ∣ 256 ^ k * 256 from ⟨256,rfl⟩)
    have e1:n % (256 ^ k * 256)=n % 256 ^ k + 256 ^ k * (n / 256 ^ k % 256):=by
      exact emod_mul_256 n _ (pow256_pos k)
    rw [e1,Int.mul_comm (256 ^ k)]
    omega
theorem u16_join (a b:Int) (ha:0≤a) (ha':a < 256) (hb:0≤b) (hb':b < 256):bits .or .u16 (a * 256) b=256 * a + b:=by
  rw [u16_or _ _ (by omega) (by omega) (by omega) (by omega),nat_join 8 _ _ (by omega) (by omega)]
  omega
theorem u32_join (a b:Int) (ha:0≤a) (ha':a < 65536) (hb:0≤b) (hb':b < 65536):bits .or .u32 (a * 65536) b=65536 * a + b:=by
  rw [u32_or _ _ (by omega) (by omega) (by omega) (by omega),nat_join 16 _ _ (by omega) (by omega)]
  omega
end
section
open Go
def bs (L:List Int):List V:=L.map fun n=>.sc (.int .u8 n)
theorem bs_len (L:List Int):(bs L).length=L.length:=by simp [bs]
theorem bs_get (L:List Int) (i:Nat):(bs L)[i]?=(L[i]?).map fun n=>.sc (.int .u8 n):=by simp [bs]
theorem bs_take (L:List Int) (k:Nat):(bs L).take k=bs (L.take k):=by simp [bs,List.map_take]
theorem bs_drop (L:List Int) (k:Nat):(bs L).drop k=bs (L.drop k):=by simp [bs,List.map_drop]
theorem bs_append (L M:List Int):bs L ++ bs M=bs (L ++ M):=by simp [bs]
theorem bs_cons (x:Int) (L:List Int):bs (x :: L)=.sc (.int .u8 x) :: bs L:=rfl
theorem allSz_bs (L:List Int):allSz 1 (bs L):=fun d hd=>by
  obtain ⟨x,_,rfl⟩:=List.mem_map.1 hd; rfl
theorem allSz_bs' (L:List Int):allSz 1 (bs L)=True:=by simp [allSz_bs]
theorem mono_bs {L:List Int}:mono (bs L)=True:=eq_true (mono_all fun c hc=>by
  obtain ⟨x,_,rfl⟩:=List.mem_map.1 hc; rfl)
theorem get_ex {α:Type} {L:List α} {i:Nat} (h:i < L.length):∃ x,L[i]?=some x:=⟨_,List.getElem?_eq_getElem h⟩
theorem ibit_or (k:IntKind) (x y:Int):ibit .or k x y=bits .or k x y:=rfl
theorem vlen_max {tk:Tk} {l:List V} (h:V.Ok (.sl tk l)):(l.length:Int)≤9223372036854775807:=by have:=h.len; unfold maxLen at this; omega
theorem St.weak.refl {s:St} (hb:∀ b cs,s.box b=some cs→b < s.sz) (ho:∀ g m,s.own g=some m→g < s.sz):s.weak s:=⟨fun b cs h=>⟨h,hb b cs h⟩,fun g m h=>⟨h,ho g m h⟩,Nat.le_refl _⟩
theorem selfNe {a:Nat} (h:False):a ≠ a:=h.elim
theorem resv_1 {st:St} {A:Nat→V} {r:RV}:resV st A [r]=(rvVal st A r).2:=_root_.id rfl
theorem resv_2 {st:St} {A:Nat→V} {r q:RV} {rs:List RV}:resV st A (r :: q :: rs)=.tup ((r :: q :: rs).map fun r=>(rvVal st A r).2):=_root_.id rfl
end
section
open Go Go.RowKit
theorem RepW.below {w0:Fr} {G:Gh} {s:St} {w w':World} (h:RepW w0 G s w) (hb:Below w.heap.size w w'):RepW w0 G s w' where
  F b o v hf:=by
    have:=h.F b o v hf
    rw [hb.cell (p:=⟨b,o,none⟩) (World.block_lt_of_cell? _ _ this)]; exact this
  O g x hx:=by have:=h.O g x hx; have:=hb.size; omega
  box b cs hx:=by
    obtain ⟨h1,h2,h3,h4,h5⟩:=h.box b cs hx
    exact ⟨h1,h2,h3,h4,by rw [hb.block b (by have:=h.sz; omega)]; exact h5⟩
  own g m hg:=by
    obtain ⟨h1,h2,e,size,cap,cur,h3,h4,h5⟩:=h.own g m hg
    exact ⟨h1,h2,e,size,cap,cur,h3,by rw [hb.block g (by have:=h.sz; omega)]; exact h4,h5⟩
  sz:=by have:=h.sz; have:=hb.size; omega
  bel:=⟨hb.os.trans h.bel.os,hb.tape.trans h.bel.tape,hb.output.trans h.bel.output,Nat.le_trans h.bel.size hb.size,fun i hi=>(hb.block i (by have:=h.bel.size; omega)).trans (h.bel.block i hi)⟩
  fr b x hx:=⟨by rw [hb.block b (h.frLt hx)]; exact (h.fr b x hx).1,(h.fr b x hx).2⟩
end
section
open Go Go.RowKit
section
variable {P:Program} {w0:Fr} {G:Gh} {st:St} {w:World}
def St.drop (s:St) (b:Nat):St:={ s with box:=fun x=>if x=b then none else s.box x }
theorem RepW.seal (hw:RepW w0 G st w) {b:Nat} {cs:List V} (hb:st.box b=some cs) (hmo:mono cs):∃ G',G.le G'∧RepW w0 G' (st.drop b) w∧∀ (o c size:Nat) (l:List V),(∀ (i:Nat) (d:V),l[i]?=some d→d.cells.length=size) →
    (∀ (i:Nat) (d:V) (j:Nat) (x:V),l[i]?=some d→d.cells[j]?=some x→cs[o + i * size + j]?=some x)→l.length≤c→c≤maxLen→Rep1 G' (.sl .no l) (.slice (some ⟨b,o,none⟩) l.length c):=by
  obtain ⟨hlt,hge0,hF,hO,hrb⟩:=hw.box b cs hb
  obtain ⟨cur,te,hh,hcl,hc1,hcr⟩:=hrb.row hmo
  have hle:G.le (G.addF b cur):=⟨fun b' o v hf=>by
    simp only [Gh.addF]
    split
    · rename_i e; subst e; rw [hF] at hf; cases hf
    · exact hf,fun _ _ h=>h⟩
  refine ⟨G.addF b cur,hle,⟨fun b' o v hf=>?_,hw.O,fun b' cs' hx=>?_,fun g m hg=>?_,hw.sz,hw.bel,fun c x hx=>?_⟩,fun o c size l hl hx hc hm=>?_⟩
  · simp only [Gh.addF] at hf
    split at hf
    · rename_i e; subst e; rw [cell_of_row w b' o cur te _ hh]; exact hf
    · exact hw.F b' o v hf
  · simp only [St.drop] at hx ⊢
    split at hx
    · cases hx
    · rename_i hne
      obtain ⟨k1,k2,k3,k4,k5⟩:=hw.box b' cs' hx
      exact ⟨k1,k2,fun o=>by simp only [Gh.addF]; rw [if_neg hne]; exact k3 o,k4,k5.mono hle⟩
  · obtain ⟨k1,k2,e,size,cap,cur',k3,k4,k5,k6,k7,k8⟩:=hw.own g m hg
    have hne:g ≠ b:=fun e=>by subst e; rw [hO] at k3; cases k3
    exact ⟨k1,k2,e,size,cap,cur',k3,k4,k5,k6,k7,fun o ho=>by simp only [Gh.addF]; rw [if_neg hne]; exact k8 o ho⟩
  · have hne:c ≠ b:=fun e=>by subst e; rw [hge0.2] at hx; cases hx
    exact ⟨(hw.fr c x hx).1,fun o=>by simp only [Gh.addF]; rw [if_neg hne]; exact (hw.fr c x hx).2.1 o,(hw.fr c x hx).2.2⟩
  · have get:∀ i j,i < l.length→j < size→∃ v,cur[o + i * size + j]?=some v:=fun i j hi hj=>by
      have hd:=List.getElem?_eq_getElem hi
      have hlen:=hl i _ hd
      have hcs:=hx i _ j _ hd (List.getElem?_eq_getElem (show j < (l[i]).cells.length by omega))
      exact ⟨_,Array.getElem?_eq_getElem (by rw [hcl]; exact (List.getElem?_eq_some_iff.1 hcs).1)⟩
    refine .sl .no l b o size c (fun i j=>(cur[o + i * size + j]?).getD default) hl (fun i j hi hj=>?_) (fun i j hi hj=>?_) (fun i d j x hd hj=>?_) hc hm (by simp) (fun g k e=>by cases e)
    · obtain ⟨v,h1⟩:=get i j hi hj
      simp only [Gh.addF,↓reduceIte,h1,Option.getD_some]
    · obtain ⟨v,h1⟩:=get i j hi hj
      simp only [h1,Option.getD_some]
      exact hc1 _ _ h1
    · have hi:=(List.getElem?_eq_some_iff.1 hd).1
      have hjl:j < size:=by rw [← hl i d hd]; exact (List.getElem?_eq_some_iff.1 hj).1
      obtain ⟨v,h1⟩:=get i j hi hjl
      simp only [h1,Option.getD_some]
      exact (hcr _ _ _ (hx i d j x hd hj) h1).mono hle
inductive Sld (b:Nat) (cs:List V):V→V→Prop where
  | same (d:V):Sld b cs d d
  | box (o c size:Nat) (l:List V) (hl:∀ (i:Nat) (d:V),l[i]?=some d→d.cells.length=size) (hx:∀ (i:Nat) (d:V) (j:Nat) (x:V),l[i]?=some d→d.cells[j]?=some x→cs[o + i * size + j]?=some x) (hc:l.length≤c) (hm:c≤maxLen) :
      Sld b cs (.sc (.slice (some ⟨b,o,none⟩) l.length c)) (.sl .no l)
  | agg (xs ys:List V) (hl:xs.length=ys.length) (h:∀ (i:Nat) (x y:V),xs[i]?=some x→ys[i]?=some y→Sld b cs x y):Sld b cs (.agg xs) (.agg ys)
theorem Sld.rep {b:Nat} {cs:List V} {x y:V} (h:Sld b cs x y) {G':Gh} (hle:G.le G') (hb:∀ (o c size:Nat) (l:List V),(∀ (i:Nat) (d:V),l[i]?=some d→d.cells.length=size) →
    (∀ (i:Nat) (d:V) (j:Nat) (x:V),l[i]?=some d→d.cells[j]?=some x→cs[o + i * size + j]?=some x)→l.length≤c→c≤maxLen→Rep1 G' (.sl .no l) (.slice (some ⟨b,o,none⟩) l.length c)):∀ {v:Value},Rep1 G x v→Rep1 G' y v:=by
  induction h with
  | same d=>exact fun h=>h.mono hle
  | box o c size l hl hx hc hm =>
    intro v h
    cases h with
    | sc _ _=>exact hb o c size l hl hx hc hm
  | agg xs ys hl h ih =>
    intro v hv
    cases hv with
    | agg _ vs hvl h1 hr =>
    refine .agg _ vs (by rw [hvl,hl]) h1 fun i y u hy hu=>?_
    have hi:i < xs.length:=by rw [hl]; exact (List.getElem?_eq_some_iff.1 hy).1
    have hx:=List.getElem?_eq_getElem hi
    exact ih i _ y hx hy (hr i _ u hx hu)
theorem VCalls.seal {f:FuncId} {args args':List V} {Q:V→St→Prop} {b:Nat} {cs:List V} (hb:st.box b=some cs) (hmo:_root_.Go.Proofs.YtcoalhgmlbhhmaaGreat.mono cs) (h:VCalls P f args' (st.drop b) Q) (hl:args.length=args'.length) (hs:∀ (i:Nat) (d d':V),args[i]?=some d→args'[i]?=some d'→Sld b cs d d'):VCalls P f args st Q:=by
  intro w0 G w us hw hus hr
  obtain ⟨G',k1,k2,k3⟩:=hw.seal hb hmo
  refine (h w0 G' w us k2 (by omega) (fun i d' u hd' hu=>?_)).mono fun e w' ⟨u,r,st',G2,h1,h2,h3,h4,h5⟩=>⟨u,r,st',G2,h1,h2,h3,k1.trans h4,h5⟩
  have hi:i < args.length:=by rw [hl]; exact (List.getElem?_eq_some_iff.1 hd').1
  have hd:=List.getElem?_eq_getElem hi
  exact (hs i _ _ hd hd').rep k1 k3 (hr i _ u hd hu)
end
end
section
open Go Go.RowKit
structure Hid (H:Nat→Option (List V)) (s' s:St):Prop where
  box:∀ b,s.box b=match H b with | some cs=>some cs | none=>s'.box b
  own:s.own=s'.own
  sz:s'.sz≤s.sz
  no:∀ b cs,H b=some cs→s'.box b=none∧b < s.sz
  lt:s'.Lt
section
variable {P:Program} {H:Nat→Option (List V)} {s' s:St} {A:Nat→V}
theorem Hid.none (h:s.Lt):Hid (fun _=>none) s s:=⟨fun _=>rfl,rfl,Nat.le_refl _,fun _ _ h=>(by cases h),h⟩
theorem Hid.out (h:Hid H s' s) {b:Nat} {cs:List V} (hb:s'.box b=some cs):H b=.none:=by
  cases hh:H b with
  | none=>rfl
  | some ds=>rw [(h.no b ds hh).1] at hb; cases hb
theorem Hid.get (h:Hid H s' s) {b:Nat} {cs:List V} (hb:s'.box b=some cs):s.box b=some cs:=by rw [h.box,h.out hb]; exact hb
theorem Hid.hb (h:Hid H s' s) {b:Nat} {cs:List V} (hb:H b=some cs):s.box b=some cs:=by rw [h.box,hb]
theorem Hid.fresh (h:Hid H s' s) {b:Nat} (hb:s.sz≤b):H b=.none:=by
  cases hh:H b with
  | none=>rfl
  | some ds=>have:=(h.no b ds hh).2; omega
theorem Hid.freshN (h:Hid H s' s) {b:Nat} (hb:s.box b=.none):H b=.none∧s'.box b=.none:=by
  rw [h.box] at hb
  split at hb
  · cases hb
  · exact ⟨by assumption,hb⟩
theorem Hid.put (h:Hid H s' s) {b:Nat} (hb:H b=.none) {cs:List V}:Hid H (s'.put b cs) (s.put b cs):=by
  refine ⟨fun c=>?_,h.own,by have:=h.sz; simp only [put_sz]; omega,fun c ds hc=>?_,h.lt.put⟩
  · by_cases e:c=b
    · subst e; rw [put_box_same,put_box_same,hb]
    · rw [put_box_ne e,put_box_ne e,h.box]
  · have hne:c ≠ b:=fun e=>by subst e; rw [hb] at hc; cases hc
    rw [put_box_ne hne]
    exact ⟨(h.no c ds hc).1,by have:=(h.no c ds hc).2; simp only [put_sz]; omega⟩
theorem Hid.use (h:Hid H s' s) {g m:Nat}:Hid H (s'.use g m) (s.use g m) :=
  ⟨h.box,by simp only [St.use,h.own],by have:=h.sz; simp only [use_sz]; omega,fun c ds hc=>⟨(h.no c ds hc).1,by have:=(h.no c ds hc).2; simp only [use_sz]; omega⟩,h.lt.use⟩
def upd (H:Nat→Option (List V)) (b:Nat) (cs:List V):Nat→Option (List V):=fun c=>if c=b then some cs else H c
theorem Hid.turn (h:Hid H s' s) {b:Nat} (hb:s'.box b=.none) {cs:List V}:Hid (upd H b cs) s' (s.put b cs):=by
  refine ⟨fun c=>?_,h.own,by have:=h.sz; simp only [put_sz]; omega,fun c ds hc=>?_,h.lt⟩
  · by_cases e:c=b
    · subst e; rw [put_box_same]; simp [upd]
    · rw [put_box_ne e,h.box]; simp only [upd,if_neg e]
  · by_cases e:c=b
    · subst e; exact ⟨hb,by simp only [put_sz]; omega⟩
    · simp only [upd,if_neg e] at hc
      exact ⟨(h.no c ds hc).1,by have:=(h.no c ds hc).2; simp only [put_sz]; omega⟩
theorem vload_hide (hS:Hid H s' s) {n:Option Nat} {v:V} (h:(vload s' n v).1):vload s n v=vload s' n v:=by
  unfold vload at h ⊢
  split at h
  · rfl
  · rename_i b o
    split at h
    · rename_i cs hb
      simp only [hS.get hb]
    · exact h.elim
  · exact h.elim
theorem pop_hide (hS:Hid H s' s) {o:VOp} (h:(pop s' A o).1):pop s A o=pop s' A o:=by
  cases hl:o.isLoad with
  | false=>exact pop_st hl
  | true =>
    cases o <;> simp [VOp.isLoad] at hl
    case load n x=>exact vload_hide hS h
    case b2sB x =>
      simp only [pop] at h ⊢
      generalize x.ev A=v at h ⊢
      unfold vb2sB at h ⊢
      split at h
      · rename_i b o n c
        split at h
        · rename_i cs hb
          simp only [hS.get hb]
        · exact h.elim
      · exact h.elim
    case mlk ag lf z ok x k =>
      simp only [pop] at h ⊢
      generalize x.ev A=v at h ⊢
      unfold vmlk at h ⊢
      split at h
      · rfl
      · rename_i b
        split at h
        · rename_i hb
          simp only [hS.get hb]
        · exact h.elim
      · exact h.elim
    case mlen x =>
      simp only [pop] at h ⊢
      generalize x.ev A=v at h ⊢
      unfold vmlen at h ⊢
      split at h
      · rfl
      · rename_i b
        split at h
        · rename_i hb
          simp only [hS.get hb]
        · exact h.elim
      · exact h.elim
    case ent x =>
      simp only [pop] at h ⊢
      generalize x.ev A=v at h ⊢
      unfold vent at h ⊢
      split at h
      · rename_i r
        split at h
        · rename_i m a seen last hr
          split at h
          · rename_i ag lf es c hm
            simp only [hS.get hr,hS.get hm]
          · exact h.elim
        · exact h.elim
      · exact h.elim
theorem VCalls.hide {f:FuncId} {args:List V} {Q:V→St→Prop} (h:VCalls P f args s' Q) (hS:Hid H s' s):VCalls P f args s fun r t=>∃ t',Q r t'∧Hid H t' t:=by
  intro w0 G w us hw hus hr
  have hobj:∀ b cs,H b=some cs→∃ o,w.heap[b]?=some o:=fun b cs hb=>by
    have:=(hw.box b cs (hS.hb hb)).2.2.2.2
    cases ho:w.heap[b]? with
    | none=>rw [ho] at this; cases this
    | some o=>exact ⟨o,rfl⟩
  obtain ⟨XB,hXB⟩:∃ XB:Nat→Option Obj,XB=fun b=>match H b with | some _=>w.heap[b]? | none=>none:=⟨_,rfl⟩
  have hXn:∀ b,H b=none→XB b=none:=fun b hb=>by rw [hXB]; simp only [hb]
  have hXs:∀ b cs,H b=some cs→XB b=w.heap[b]?:=fun b cs hb=>by rw [hXB]; simp only [hb]
  have hw':RepW (w0.add XB) G s' w:=by
    refine ⟨hw.F,hw.O,fun b cs hb=>?_,fun g m hg=>?_,Nat.le_trans hS.sz hw.sz,hw.bel,fun b o hx=>?_⟩
    · obtain ⟨k1,k2,k3⟩:=hw.box b cs (hS.get hb)
      exact ⟨hS.lt.box b cs hb,Fr.add_free k2 (hXn b (hS.out hb)),k3⟩
    · obtain ⟨k1,k2,e,size,cap,cur,k3,k4⟩:=hw.own g m (by rw [hS.own]; exact hg)
      have hn:H g=none:=by
        cases hh:H g with
        | none=>rfl
        | some cs =>
          have:=(hw.box g cs (hS.hb hh)).2.2.2.1
          rw [this] at k3; cases k3
      exact ⟨hS.lt.own g m hg,Fr.add_free k2 (hXn g hn),e,size,cap,cur,k3,k4⟩
    · simp only [Fr.add] at hx
      split at hx
      · rename_i o' ho
        cases hx
        exact hw.fr b _ ho
      · cases hh:H b with
        | none=>rw [hXn b hh] at hx; cases hx
        | some cs =>
          rw [hXs b cs hh] at hx
          obtain ⟨_,_,k3,k4,_⟩:=hw.box b cs (hS.hb hh)
          exact ⟨hx,k3,k4⟩
  refine (h (w0.add XB) G w us hw' hus hr).mono fun e w' ⟨u,r,t',G',h1,h2,h3,h4,h5⟩=>?_
  have hfr:∀ b cs,H b=some cs→∃ o,w.heap[b]?=some o∧w'.heap[b]?=some o∧(∀ i,G'.F b i=none)∧G'.O b=none:=fun b cs hb=>by
    obtain ⟨o,ho⟩:=hobj b cs hb
    have k2:=(hw.box b cs (hS.hb hb)).2.1
    exact ⟨o,ho,h5.fr b o (by simp only [Fr.add,k2.2,hXs b cs hb,ho])⟩
  have hno:∀ b cs,H b=some cs→t'.box b=none:=fun b cs hb=>by
    cases ht:t'.box b with
    | none=>rfl
    | some ds =>
      have:=(Fr.free_add (h5.box b ds ht).2.1).2
      obtain ⟨o,ho,_⟩:=hfr b cs hb
      rw [hXs b cs hb,ho] at this; cases this
  have hlt:∀ b cs,H b=some cs→b < w'.heap.size:=fun b cs hb=>by
    obtain ⟨o,_,ho,_⟩:=hfr b cs hb
    exact (Array.getElem?_eq_some_iff.1 ho).1
  have hLt:t'.Lt:=⟨fun b cs hb=>(h5.box b cs hb).1,fun g m hg=>(h5.own g m hg).1⟩
  have hsz:=h5.sz
  refine ⟨u,r,⟨fun b=>match H b with | some cs=>some cs | none=>t'.box b,t'.own,min (max t'.sz s.sz) w'.heap.size⟩,G',h1,⟨t',h2,⟨fun b=>rfl,rfl,by simp only; omega,fun b cs hb=>⟨hno b cs hb,by have:=hlt b cs hb; have:=(hS.no b cs hb).2; simp only; omega⟩,hLt⟩⟩,h3,h4,⟨h5.F,h5.O,fun b cs hb=>?_,fun g m hg=>?_,by simp only; omega,h5.bel,fun b o hx=>h5.fr b o (by simp only [Fr.add,hx])⟩⟩
  · simp only at hb
    split at hb
    · rename_i ds hh
      cases hb
      obtain ⟨o,ho,ho',k3,k4⟩:=hfr b cs hh
      obtain ⟨_,k2,_,_,k5⟩:=hw.box b cs (hS.hb hh)
      refine ⟨by have:=hlt b cs hh; have:=(hS.no b cs hh).2; simp only; omega,k2,k3,k4,?_⟩
      rw [ho']; rw [ho] at k5
      exact k5.mono h4
    · obtain ⟨k1,k2,k3⟩:=h5.box b cs hb
      exact ⟨by simp only; omega,(Fr.free_add k2).1,k3⟩
  · obtain ⟨k1,k2,k3⟩:=h5.own g m hg
    exact ⟨by simp only; omega,(Fr.free_add k2).1,k3⟩
variable {K K':V→St→Prop}
theorem own_hide (hS:Hid H s' s) {size:Nat} {x:V} {l:List V} (h:Own size s' x l):Own size s x l:=by
  rcases h with h | ⟨g,h1,h2,h3⟩
  · exact .inl h
  · exact .inr ⟨g,h1,by rw [hS.own]; exact h2,by have:=hS.sz; omega⟩
theorem src_hide (hS:Hid H s' s) {size:Nat} {y:V} {ys:List V} (h:srcV size s' y ys):srcV size s y ys:=by
  rcases h with h | ⟨b,o,c,cs,h1,h2,h3⟩
  · exact .inl h
  · exact .inr ⟨b,o,c,cs,h1,hS.get h2,h3⟩
theorem app_hide (hS:Hid H s' s) {size:Nat} {x r:V} {l:List V} {t:St} (h1:Own size t r l) (h2:AppSt s x t r):∃ t',Own size t' r l∧AppSt s' x t' r∧Hid H t' t:=by
  have hsz:=hS.sz
  have hlo:∀ g m,s.own g=some m→g < s.sz:=fun g m hg=>by rw [hS.own] at hg; have:=hS.lt.own g m hg; omega
  refine ⟨⟨s'.box,t.own,t.sz⟩,h1,⟨rfl,fun _=>h2.lt hlo,by have:=h2.sz; simp only; omega,fun g m hg=>h2.own g m (by rw [hS.own]; exact hg),fun g k l e=>(h2.tok g k l e).imp id fun h=>by omega⟩,⟨fun b=>by rw [h2.box]; exact hS.box b,rfl,Nat.le_refl _,fun b cs hb=>⟨(hS.no b cs hb).1,by have:=(hS.no b cs hb).2; have:=h2.sz; omega⟩,⟨fun b cs hb=>?_,h2.lt hlo⟩⟩⟩
  have:=hS.lt.box b cs hb
  have:=h2.sz
  simp only; omega
theorem vapp_hide (hS:Hid H s' s) {size bytes:Nat} {x y:V} (h:vapp size bytes x y s' K') (hk:∀ r t' t,K' r t'→Hid H t' t→K r t):vapp size bytes x y s K:=by
  have hsz:=hS.sz
  rcases h with ⟨l,ys,k1,k2,k3,k4,k5,k6⟩ | ⟨b,n,cap,cs,ys,kx,kb,kl,kmo,kn,kc,k2,k3,k4,k5,k6⟩ | ⟨ys,kx,k2,k3,k1,k4,k5,k6⟩ | ⟨l,ys,kx,kl,k2,k3,k1,k4,k5,k6⟩
  · refine .inl ⟨l,ys,own_hide hS k1,src_hide hS k2,k3,k4,k5,fun r t j1 j2=>?_⟩
    obtain ⟨t',e1,e2,e3⟩:=app_hide hS j1 j2
    exact hk r t' t (k6 r t' e1 e2) e3
  · refine .inr (.inl ⟨b,n,cap,cs,ys,kx,hS.get kb,kl,kmo,kn,kc,src_hide hS k2,k3,k4,k5,fun b' cap' spare j1 j2 j3 j4 j5 j6=>?_⟩)
    have hb':H b'=none:=by
      rcases j1 with rfl | j1
      · exact hS.out kb
      · exact hS.fresh j1
    exact hk _ _ _ (k6 b' cap' spare (j1.imp id fun h=>by omega) j2 j3 j4 j5 j6) (hS.put hb')
  · exact .inr (.inr (.inl ⟨ys,kx,src_hide hS k2,k3,k1,k4,k5,fun b' cap' spare j1 j2 j3 j4 j6=>hk _ _ _ (k6 b' cap' spare (by omega) j2 j3 j4 j6) (hS.put (hS.fresh j1))⟩))
  · refine .inr (.inr (.inr ⟨l,ys,kx,kl,src_hide hS k2,k3,k1,k4,k5,fun r t j1 j2=>?_⟩))
    obtain ⟨t',e1,e2,e3⟩:=app_hide hS j1 j2
    exact hk r t' t (k6 r t' e1 e2) e3
theorem vop_hide (hS:Hid H s' s) {o:VOp} (h:vop P o s' A K') (hk:∀ r t' t,K' r t'→Hid H t' t→K r t):vop P o s A K:=by
  have hsz:=hS.sz
  cases o
  case box x=>exact ⟨h.1,fun b hb=>hk _ _ _ (h.2 b (by omega)) (hS.put (hS.fresh hb))⟩
  case alc z=>exact fun b hb=>hk _ _ _ (h b (by omega)) (hS.put (hS.fresh hb))
  case alcX z=>exact fun b hb ho=>hk _ _ _ (h b (hS.freshN hb).2 (by rw [← hS.own]; exact ho)) (hS.put (hS.freshN hb).1)
  case boxX x=>exact ⟨h.1,fun b hb ho=>hk _ _ _ (h.2 b (hS.freshN hb).2 (by rw [← hS.own]; exact ho)) (hS.put (hS.freshN hb).1)⟩
  case bslo size xs =>
    refine ⟨h.1,?_⟩
    rcases h.2 with h | h
    · exact .inl fun g hg=>hk _ _ _ (h g (by omega)) hS.use
    · exact .inr fun b hb=>hk _ _ _ (h b (by omega)) (hS.put (hS.fresh hb))
  case mks size bytes z x =>
    simp only [vop] at h ⊢
    unfold vmks at h ⊢
    split at h
    · exact ⟨h.1,h.2.1,h.2.2.1,fun b hb=>hk _ _ _ (h.2.2.2 b (by omega)) (hS.put (hS.fresh hb))⟩
    · exact h.elim
  case mko size bytes z x =>
    simp only [vop] at h ⊢
    unfold vmko at h ⊢
    split at h
    · refine ⟨h.1,h.2.1,h.2.2.1,?_⟩
      rcases h.2.2.2 with h | h
      · exact .inl fun g hg=>hk _ _ _ (h g (by omega)) hS.use
      · exact .inr fun b hb=>hk _ _ _ (h b (by omega)) (hS.put (hS.fresh hb))
    · exact h.elim
  case store size x y =>
    simp only [vop] at h ⊢
    unfold vstore at h ⊢
    split at h
    · split at h
      · rename_i hb
        simp only [hS.get hb]
        exact ⟨h.1,h.2.1,h.2.2.1,h.2.2.2.1,hk _ _ _ h.2.2.2.2 (hS.put (hS.out hb))⟩
      · exact h.elim
    · exact h.elim
  case app size bytes x y=>exact vapp_hide hS h hk
  case appx size bytes z x y=>exact ⟨h.1,vapp_hide hS h.2 hk⟩
  case call f args=>exact (VCalls.hide h hS).mono fun r t ⟨t',h1,h2⟩ hok=>hk r t' t (h1 hok) h2
  case mkm ag lf=>exact fun b hb=>hk _ _ _ (h b (by omega)) (hS.put (hS.fresh hb))
  case mup ag lf x k v =>
    simp only [vop] at h ⊢
    unfold vmup at h ⊢
    split at h
    · split at h
      · rename_i hb
        simp only [hS.get hb]
        exact ⟨h.1,h.2.1,h.2.2.1,hk _ _ _ h.2.2.2 (hS.put (hS.out hb))⟩
      · exact h.elim
    · exact h.elim
  case mdel ag lf x k =>
    simp only [vop] at h ⊢
    unfold vmdel at h ⊢
    split at h
    · exact ⟨h.1,hk _ _ _ h.2 hS⟩
    · split at h
      · rename_i hb
        simp only [hS.get hb]
        exact ⟨h.1,h.2.1,h.2.2.1,hk _ _ _ h.2.2.2 (hS.put (hS.out hb))⟩
      · exact h.elim
    · exact h.elim
  case rng x =>
    simp only [vop] at h ⊢
    unfold vrng at h ⊢
    split at h
    · exact fun b hb=>hk _ _ _ (h b (by omega)) (hS.put (hS.fresh hb))
    · split at h
      · rename_i hb
        simp only [hS.get hb]
        exact fun b hb=>hk _ _ _ (h b (by omega)) (hS.put (hS.fresh hb))
      · exact h.elim
    · exact h.elim
  case nxt x =>
    simp only [vop] at h ⊢
    unfold vnxt at h ⊢
    split at h
    · split at h
      · rename_i hr
        simp only [hS.get hr]
        exact hk _ _ _ h hS
      · rename_i hr
        simp only [hS.get hr]
        split at h
        · rename_i hm
          simp only [hS.get hm]
          exact ⟨h.1,h.2.1,fun e=>hk _ _ _ (h.2.2.1 e) hS,fun e he hn=>hk _ _ _ (h.2.2.2 e he hn) (hS.put (hS.out hr))⟩
        · exact h.elim
      · exact h.elim
    · exact h.elim
  case ment ag lf z x k =>
    simp only [vop] at h ⊢
    unfold vment at h ⊢
    split at h
    · split at h
      · rename_i hb
        simp only [hS.get hb]
        exact ⟨h.1,h.2.1,h.2.2.1,hk _ _ _ h.2.2.2 (hS.put (hS.out hb))⟩
      · exact h.elim
    · exact h.elim
  case est x q v =>
    simp only [vop] at h ⊢
    unfold vest at h ⊢
    split at h
    · refine ⟨h.1,?_⟩
      have h:=h.2
      split at h
      · rename_i hb
        simp only [hS.get hb]
        exact ⟨h.1,hk _ _ _ h.2 (hS.put (hS.out hb))⟩
      · exact h.elim
    · exact h.elim
  case clr size z x =>
    simp only [vop] at h ⊢
    unfold vclr at h ⊢
    split at h
    · exact hk _ _ _ h hS
    · split at h
      · rename_i hb
        simp only [hS.get hb]
        exact ⟨h.1,h.2.1,hk _ _ _ h.2.2 (hS.put (hS.out hb))⟩
      · exact h.elim
    · exact h.elim
  case calv x args =>
    simp only [vop] at h ⊢
    unfold vcalv at h ⊢
    split at h
    · exact ⟨h.1,h.2.1,(VCalls.hide h.2.2 hS).mono fun r t ⟨t',h1,h2⟩ hok=>hk r t' t (h1 hok) h2⟩
    · exact h.elim
  case inv name x args =>
    simp only [vop] at h ⊢
    unfold vinv at h ⊢
    split at h
    · obtain ⟨f,h1,h2,h3,h4⟩:=h
      exact ⟨f,h1,h2,h3,(VCalls.hide h4 hS).mono fun r t ⟨t',h1,h2⟩ hok=>hk r t' t (h1 hok) h2⟩
    · exact h.elim
  case cpy size x y =>
    simp only [vop] at h ⊢
    unfold vcpy at h ⊢
    split at h
    · split at h
      · rename_i h1 h2
        simp only [hS.get h1,hS.get h2]
        exact ⟨h.1,h.2.1,h.2.2.1,h.2.2.2.1,hk _ _ _ h.2.2.2.2 (hS.put (hS.out h1))⟩
      · exact h.elim
    · exact h.elim
  all_goals
    have e:=pop_hide hS h.1
    exact ⟨by rw [e]; exact h.1,by rw [e]; exact hk _ _ _ h.2 hS⟩
theorem vop_congr {A B:Nat→V} {o:VOp} {s:St} (h:∀ t ∈ o.reads,A t=B t):vop P o s A K=vop P o s B K:=by
  have e1:∀ {x:X},(∀ t ∈ x.reads,t ∈ o.reads)→x.ev A=x.ev B:=fun hx=>X.ev_congr fun t ht=>h t (hx t ht)
  have em:∀ {xs:List X},(∀ x ∈ xs,∀ t ∈ x.reads,t ∈ o.reads)→(xs.map fun x=>x.ev A)=xs.map fun x=>x.ev B:=fun hx=>List.map_congr_left fun x hm=>X.ev_congr fun t ht=>h t (hx x hm t ht)
  cases o
  case box x=>simp only [vop,@e1 x (fun t ht=>by simpa [VOp.reads] using ht)]
  case alc z=>rfl
  case alcX z=>rfl
  case boxX x=>simp only [vop,@e1 x (fun t ht=>by simpa [VOp.reads] using ht)]
  case bslo size xs =>
    have:(xs.map fun x=>strip (x.ev A))=xs.map fun x=>strip (x.ev B):=List.map_congr_left fun x hm=>by
      rw [@e1 x (fun t ht=>by simp only [VOp.reads,List.mem_flatMap]; exact ⟨x,hm,ht⟩)]
    simp only [vop,this]
  case mks size bytes z x=>simp only [vop,@e1 x (fun t ht=>by simpa [VOp.reads] using ht)]
  case mko size bytes z x=>simp only [vop,@e1 x (fun t ht=>by simpa [VOp.reads] using ht)]
  case store size x y=>simp only [vop,@e1 x (fun t ht=>by simp [VOp.reads,ht]),@e1 y (fun t ht=>by simp [VOp.reads,ht])]
  case app size bytes x y=>simp only [vop,@e1 x (fun t ht=>by simp [VOp.reads,ht]),@e1 y (fun t ht=>by simp [VOp.reads,ht])]
  case appx size bytes z x y=>simp only [vop,@e1 x (fun t ht=>by simp [VOp.reads,ht]),@e1 y (fun t ht=>by simp [VOp.reads,ht])]
  case call f args=>simp only [vop,@em args (fun x hm t ht=>by simp only [VOp.reads,List.mem_flatMap]; exact ⟨x,hm,ht⟩)]
  case mkm ag lf=>rfl
  case mup ag lf x k v=>simp only [vop,@e1 x (fun t ht=>by simp [VOp.reads,ht]),@e1 k (fun t ht=>by simp [VOp.reads,ht]),@e1 v (fun t ht=>by simp [VOp.reads,ht])]
  case mdel ag lf x k=>simp only [vop,@e1 x (fun t ht=>by simp [VOp.reads,ht]),@e1 k (fun t ht=>by simp [VOp.reads,ht])]
  case rng x=>simp only [vop,@e1 x (fun t ht=>by simpa [VOp.reads] using ht)]
  case nxt x=>simp only [vop,@e1 x (fun t ht=>by simpa [VOp.reads] using ht)]
  case ment ag lf z x k=>simp only [vop,@e1 x (fun t ht=>by simp [VOp.reads,ht]),@e1 k (fun t ht=>by simp [VOp.reads,ht])]
  case est x q v=>simp only [vop,@e1 x (fun t ht=>by simp [VOp.reads,ht]),@e1 q (fun t ht=>by simp [VOp.reads,ht]),@e1 v (fun t ht=>by simp [VOp.reads,ht])]
  case clr size z x=>simp only [vop,@e1 x (fun t ht=>by simpa [VOp.reads] using ht)]
  case calv x args=>simp only [vop,@e1 x (fun t ht=>by simp only [VOp.reads,List.mem_append]; exact .inl ht),@em args (fun x hm t ht=>by simp only [VOp.reads,List.mem_append,List.mem_flatMap]; exact .inr ⟨x,hm,ht⟩)]
  case inv name x args=>simp only [vop,@e1 x (fun t ht=>by simp only [VOp.reads,List.mem_append]; exact .inl ht),@em args (fun x hm t ht=>by simp only [VOp.reads,List.mem_append,List.mem_flatMap]; exact .inr ⟨x,hm,ht⟩)]
  case cpy size x y=>simp only [vop,@e1 x (fun t ht=>by simp [VOp.reads,ht]),@e1 y (fun t ht=>by simp [VOp.reads,ht])]
  all_goals
    have e:=pop_congr (st:=s) h
    simp only [vop,e]
end
end
section
open Go Go.RowKit
abbrev Gd:=Option (Nat × Bool)
structure PE where
  d:Nat
  p:Nat
  off:Nat
  g:Gd
structure PL where
  d:Nat
  n:Option Nat
  p:Nat
  off:Nat
def szOf:List (Nat × Nat)→Nat→Option Nat
  | [],_=>none
  | (a,n) :: S,t=>if a=t then some n else szOf S t
structure PC where
  S:List (Nat × Nat)
  D:List Nat
  scr:Nat
def PC.sp (c:PC) (t:Nat):Bool:=(szOf c.S t).isSome || c.D.contains t || t == c.scr
def PC.xs (c:PC) (l:List Nat):Bool:=l.all fun t=>!c.sp t
def gd:Gd→List Nat
  | none=>[]
  | some (s,_)=>[s]
def PC.addr (c:PC) (E:List PE):X→Option (Nat × Nat × Nat × Gd)
  | .t a=>match szOf c.S a with
    | some N=>some (a,N,0,none)
    | none=>match E.find? (fun e=>e.d == a) with
      | some e=>match szOf c.S e.p with
        | some N=>some (e.p,N,e.off,e.g)
        | none=>none
      | none=>none
  | .c _=>none
def gLe:Gd→Gd→Bool
  | none,_=>true
  | some (a,b),some (x,y)=>a == x && b == y
  | _,_=>false
def killE (E:List PE) (t:Nat):List PE:=E.filter fun e=>e.d != t && e.p != t && !(gd e.g).contains t
def killL (L:List PL) (t:Nat):List PL:=L.filter fun l=>l.d != t && l.p != t
def killS (L:List PL) (p off k:Nat):List PL:=L.filter fun l=>l.p != p || (l.n.getD 1 != 0 && (decide (l.off + l.n.getD 1≤off) || decide (off + k≤l.off)))
def killEo (E:List PE):Option Nat→List PE
  | none=>E
  | some t=>killE E t
def killLo (L:List PL):Option Nat→List PL
  | none=>L
  | some t=>killL L t
def eqn:Option Nat→Option Nat→Bool
  | none,none=>true
  | some a,some b=>a == b
  | _,_=>false
def PC.obs (c:PC) (E:List PE) (L:List PL):List (Option Nat × X × Nat)→Option (List (Option Nat × X × Nat))
  | []=>some []
  | (n,x,d) :: r=>match c.addr E x with
    | some (p,_,off,none)=>if L.any (fun l=>l.d == d && l.p == p && l.off == off && eqn l.n n) then c.obs E L r else none
    | some _=>none
    | none=>if c.xs x.reads && !c.sp d then (c.obs E L r).map ((n,x,d) :: ·) else none
def chk (x:X) (g:Gd):VO:=⟨none,.bld [.any] [(0,1,x)],g,[]⟩
def PC.one (c:PC) (p N:Nat) (g:Gd):List VO:=if N=1 then [⟨some c.scr,.fv 0 none (.t p),g,[]⟩,chk (.t c.scr) g] else []
def ldo (d p off:Nat) (n:Option Nat) (g:Gd):List VO:=match n with
  | none=>[⟨some d,.fv off none (.t p),g,[]⟩,chk (.t d) g]
  | some k=>[⟨some d,.fv off (some k) (.t p),g,[]⟩]
abbrev Step:=List VO × List PE × List PL
def PC.plain (c:PC) (E:List PE) (L:List PL) (o:VO):Option Step :=
  match c.obs E L o.obs with
  | some q=>if c.xs (gd o.g ++ o.op.reads ++ o.dst.toList) then some ([{ o with obs:=q }],killEo E o.dst,killLo L o.dst) else none
  | none=>none
def PC.born (c:PC) (E:List PE) (L:List PL) (o w:VO) (p:Nat):Option Step :=
  match c.obs E L o.obs,o.g with
  | some [],none=>some ([w],killE E p,killL L p)
  | _,_=>none
def PC.op (c:PC) (E:List PE) (L:List PL) (o:VO):Option Step :=
  match o.dst.bind (szOf c.S) with
  | some N=>match o.op,o.dst with
    | .alc z,some p | .alcX z,some p=>if z.length=N∧N ≠ 0 then c.born E L o ⟨some p,.mv (.c (.agg z)),none,[]⟩ p else none
    | .box x,some p | .boxX x,some p=>if N ≠ 0∧c.xs x.reads=true then c.born E L o ⟨some p,.bld (List.replicate N .any) [(0,N,x)],none,[]⟩ p else none
    | _,_=>none
  | none=>match o.op with
    | .fld off x=>match c.addr E x,o.dst,o.obs with
      | some (p,_,o0,g),some d,[]=>if gLe g o.g && c.D.contains d && c.xs (gd o.g) then some ([⟨none,.fv 0 none (.t p),o.g,[]⟩],⟨d,p,o0 + off,o.g⟩ :: killE E d,killL L d) else none
      | some _,_,_=>none
      | none,_,_=>c.plain E L o
    | .nilck x=>match c.addr E x,o.dst,o.obs with
      | some (p,_,o0,g),some d,[]=>if gLe g o.g && c.D.contains d && c.xs (gd o.g) then some ([⟨none,.fv 0 none (.t p),o.g,[]⟩],⟨d,p,o0,o.g⟩ :: killE E d,killL L d) else none
      | some (p,_,_,g),none,[]=>if gLe g o.g && c.xs (gd o.g) then some ([⟨none,.fv 0 none (.t p),o.g,[]⟩],E,L) else none
      | some _,_,_=>none
      | none,_,_=>c.plain E L o
    | .load n x=>match c.addr E x,o.dst,o.obs with
      | some (p,N,off,g),some d,[]=>if gLe g o.g && !c.sp d && c.xs (gd o.g) && !(gd o.g).contains d then
          some (c.one p N o.g ++ ldo d p off n o.g,killE E d,(match o.g with | none=>[⟨d,n,p,off⟩] | some _=>[]) ++ killL L d) else none
      | some _,_,_=>none
      | none,_,_=>c.plain E L o
    | .store k x y=>match c.addr E x,o.g,o.dst with
      | some (p,N,off,none),none,none=>match c.obs E (killS L p off k) o.obs with
        | some []=>if c.xs y.reads then some (c.one p N none ++ [⟨some p,.bld (List.replicate N .any) [(0,N,.t p),(off,k,y)],none,[]⟩],E,killS L p off k) else none
        | _=>none
      | some _,_,_=>none
      | none,_,_=>c.plain E L o
    | _=>c.plain E L o
def PC.ops (c:PC):List PE→List PL→List VO→Option (List VO)
  | _,_,[]=>some []
  | E,L,o :: r=>match c.op E L o with
    | some (ws,E',L')=>(c.ops E' L' r).map (ws ++ ·)
    | none=>none
def PC.code (c:PC):VC→Option VC
  | .skip=>some .skip
  | .exit i=>some (.exit i)
  | .ret=>some .ret
  | .reg ops=>(c.ops [] [] ops).map .reg
  | .seq a b=>match c.code a,c.code b with
    | some a,some b=>some (.seq a b)
    | _,_=>none
  | .cond x a b=>if c.xs x.reads then match c.code a,c.code b with
    | some a,some b=>some (.cond x a b)
    | _,_=>none
    else none
  | .blk i a=>(c.code a).map (.blk i)
  | .loop a=>(c.code a).map .loop
inductive RP where
  | tmp (t:Nat)
  | cell (t:Nat) (n:Option Nat)
  | pv (p:Nat) (n:Option Nat)
def PC.res (c:PC):RV→Option RP
  | .tmp t=>if c.sp t then none else some (.tmp t)
  | .cell t n=>match szOf c.S t with
    | some _=>some (.pv t n)
    | none=>if c.sp t then none else some (.cell t n)
structure FP where
  n:Nat
  body:VC
  res:List RP
def cFunP (P:Program) (S:List (Nat × Nat)) (D:List Nat) (f:FuncId):Option FP :=
  match cFun P f with
  | some F=>match PC.code ⟨S,D,F.n⟩ F.body,F.res.mapM (PC.res ⟨S,D,F.n⟩) with
    | some b,some r=>some ⟨F.n,b,r⟩
    | _,_=>none
  | none=>none
def vpv:V→Option Nat→Prop × V
  | .agg cs,n=>takeB cs 0 n
  | _,_=>(False,.any)
def rpVal (st:St) (A:Nat→V):RP→Prop × V
  | .tmp t=>(True,A t)
  | .cell t n=>vload st n (A t)
  | .pv p n=>vpv (A p) n
def rpAll (st:St) (A:Nat→V):List RP→Prop
  | []=>True
  | r :: rs=>(rpVal st A r).1∧rpAll st A rs
def respV (st:St) (A:Nat→V) (res:List RP):V :=
  match res with
  | [r]=>(rpVal st A r).2
  | rs=>.tup (rs.map fun r=>(rpVal st A r).2)
def vretp (res:List RP) (Q:V→St→Prop) (A:Nat→V) (st:St):Prop :=
  rpAll st A res∧∃ r st',Wk (respV st A res) r∧st'.weak st∧Q r st'
def finP (res:List RP) (Q:V→St→Prop):VQ
  | .normal,A,st=>vretp res Q A st
  | .ret,A,st=>vretp res Q A st
  | .exit _,_,_=>False
structure SimA (c:PC) (H:Nat→Option (List V)) (A' A:Nat→V):Prop where
  eq:∀ t,c.sp t=false→A' t=A t
  live:∀ p N,szOf c.S p=some N→A' p=.und ∨ ∃ b cs,A' p=.agg cs∧cs.length=N∧A p=ptrV b∧H b=some cs
  inj:∀ p N q M b,szOf c.S p=some N→szOf c.S q=some M→A' p ≠ .und→A' q ≠ .und→A p=ptrV b→A q=ptrV b→p=q
def gH (A:Nat→V):Gd→Prop
  | none=>True
  | some (s,w)=>A s=.sc (.bool w)
structure PInv (c:PC) (E:List PE) (L:List PL) (A' A:Nat→V):Prop where
  e:∀ e ∈ E,(szOf c.S e.p).isSome=true∧(gH A e.g→∃ b,A e.p=ptrV b∧A e.d=.sc (.pointer (some ⟨b,e.off,none⟩)))
  l:∀ l ∈ L,(szOf c.S l.p).isSome=true∧(A l.d=.und ∨ ∃ cs,A' l.p=.agg cs∧(takeB cs l.off l.n).1∧(takeB cs l.off l.n).2=A l.d)
section
variable {P:Program} {c:PC} {H:Nat→Option (List V)} {s' s:St} {A' A:Nat→V} {E:List PE} {L:List PL}
theorem PC.xs_mem {l:List Nat} (h:c.xs l=true):∀ t ∈ l,c.sp t=false:=fun t ht=>by
  have:=List.all_eq_true.1 h t ht
  simpa using this
theorem sp_var {p N:Nat} (h:szOf c.S p=some N):c.sp p=true:=by simp [PC.sp,h]
theorem sp_ne {t p N:Nat} (ht:c.sp t=false) (h:szOf c.S p=some N):t ≠ p:=fun e=>by subst e; rw [sp_var h] at ht; cases ht
theorem SimA.put (h:SimA c H A' A) {d:Nat} (hd:szOf c.S d=none) {r r':V} (hr:c.sp d=false→r'=r):SimA c H (putV A' (some d) r') (putV A (some d) r):=by
  have hne:∀ p N,szOf c.S p=some N→p ≠ d:=fun p N hp e=>by subst e; rw [hd] at hp; cases hp
  refine ⟨fun t ht=>?_,fun p N hp=>?_,fun p N q M b hp hq h1 h2 h3 h4=>?_⟩
  · simp only [putV]
    by_cases e:t=d
    · subst e; rw [if_pos rfl,if_pos rfl]; exact hr ht
    · rw [if_neg e,if_neg e]; exact h.eq t ht
  · simp only [putV,if_neg (hne p N hp)]
    exact h.live p N hp
  · simp only [putV,if_neg (hne p N hp),if_neg (hne q M hq)] at h1 h2 h3 h4
    exact h.inj p N q M b hp hq h1 h2 h3 h4
theorem SimA.putR (h:SimA c H A' A) {d:Nat} (hd:szOf c.S d=none) (hs:c.sp d=true) {r:V}:SimA c H A' (putV A (some d) r):=by
  have hne:∀ p N,szOf c.S p=some N→p ≠ d:=fun p N hp e=>by subst e; rw [hd] at hp; cases hp
  refine ⟨fun t ht=>?_,fun p N hp=>?_,fun p N q M b hp hq h1 h2 h3 h4=>?_⟩
  · simp only [putV]
    rw [if_neg (fun e=>by subst e; rw [hs] at ht; cases ht)]; exact h.eq t ht
  · simp only [putV,if_neg (hne p N hp)]
    exact h.live p N hp
  · simp only [putV,if_neg (hne p N hp),if_neg (hne q M hq)] at h3 h4
    exact h.inj p N q M b hp hq h1 h2 h3 h4
theorem SimA.putL (h:SimA c H A' A) {d:Nat} (hd:szOf c.S d=none) (hs:c.sp d=true) {r:V}:SimA c H (putV A' (some d) r) A:=by
  have hne:∀ p N,szOf c.S p=some N→p ≠ d:=fun p N hp e=>by subst e; rw [hd] at hp; cases hp
  refine ⟨fun t ht=>?_,fun p N hp=>?_,fun p N q M b hp hq h1 h2 h3 h4=>?_⟩
  · simp only [putV]
    rw [if_neg (fun e=>by subst e; rw [hs] at ht; cases ht)]; exact h.eq t ht
  · simp only [putV,if_neg (hne p N hp)]
    exact h.live p N hp
  · simp only [putV,if_neg (hne p N hp),if_neg (hne q M hq)] at h1 h2
    exact h.inj p N q M b hp hq h1 h2 h3 h4
theorem SimA.putO (h:SimA c H A' A) {d:Option Nat} (hd:∀ t ∈ d.toList,c.sp t=false) {r:V}:SimA c H (putV A' d r) (putV A d r):=by
  cases d with
  | none=>exact h
  | some d =>
    have:=hd d (by simp)
    refine h.put ?_ (fun _=>rfl)
    cases hz:szOf c.S d with
    | none=>rfl
    | some N=>rw [sp_var hz] at this; cases this
theorem SimA.born (h:SimA c H A' A) {p N b:Nat} {cs:List V} (hp:szOf c.S p=some N) (hl:cs.length=N) (hb:H b=none):SimA c (upd H b cs) (putV A' (some p) (.agg cs)) (putV A (some p) (ptrV b))∧SimA c (upd H b cs) A' A:=by
  have old:∀ q M,szOf c.S q=some M→A' q=.und ∨ ∃ b' ds,b' ≠ b∧A' q=.agg ds∧ds.length=M∧A q=ptrV b'∧H b'=some ds:=fun q M hq=>by
    rcases h.live q M hq with e | ⟨b',ds,e1,e2,e3,e4⟩
    · exact .inl e
    · exact .inr ⟨b',ds,fun e=>by (subst e; rw [hb] at e4; cases e4),e1,e2,e3,e4⟩
  refine ⟨⟨fun t ht=>?_,fun q M hq=>?_,fun q M q2 M2 b2 hq hq2 h1 h2 h3 h4=>?_⟩,h.eq,fun q M hq=>?_,h.inj⟩
  · simp only [putV,if_neg (sp_ne ht hp)]; exact h.eq t ht
  · simp only [putV]
    by_cases e:q=p
    · subst e
      rw [hp] at hq; cases hq
      exact .inr ⟨b,cs,by simp,hl,by simp,by simp [upd]⟩
    · rw [if_neg e,if_neg e]
      rcases old q M hq with e | ⟨b',ds,e0,e1,e2,e3,e4⟩
      · exact .inl e
      · exact .inr ⟨b',ds,e1,e2,e3,by simp only [upd,if_neg e0]; exact e4⟩
  · simp only [putV] at h1 h2 h3 h4
    by_cases e:q=p
    · by_cases e':q2=p
      · rw [e,e']
      · rw [if_pos e] at h3; rw [if_neg e'] at h2 h4
        have hbb:b2=b:=by simp only [ptrV,V.sc.injEq,Value.pointer.injEq,Option.some.injEq,Addr.mk.injEq] at h3; exact h3.1.symm
        rcases old q2 M2 hq2 with k | ⟨b',ds,e0,e1,e2,e3,e4⟩
        · exact absurd k h2
        · rw [e3] at h4
          simp only [ptrV,V.sc.injEq,Value.pointer.injEq,Option.some.injEq,Addr.mk.injEq] at h4
          exact absurd (h4.1.trans hbb) e0
    · by_cases e':q2=p
      · rw [if_pos e'] at h4; rw [if_neg e] at h1 h3
        have hbb:b2=b:=by simp only [ptrV,V.sc.injEq,Value.pointer.injEq,Option.some.injEq,Addr.mk.injEq] at h4; exact h4.1.symm
        rcases old q M hq with k | ⟨b',ds,e0,e1,e2,e3,e4⟩
        · exact absurd k h1
        · rw [e3] at h3
          simp only [ptrV,V.sc.injEq,Value.pointer.injEq,Option.some.injEq,Addr.mk.injEq] at h3
          exact absurd (h3.1.trans hbb) e0
      · rw [if_neg e] at h1 h3; rw [if_neg e'] at h2 h4
        exact h.inj q M q2 M2 b2 hq hq2 h1 h2 h3 h4
  · rcases old q M hq with e | ⟨b',ds,e0,e1,e2,e3,e4⟩
    · exact .inl e
    · exact .inr ⟨b',ds,e1,e2,e3,by simp only [upd,if_neg e0]; exact e4⟩
theorem SimA.turn (h:SimA c H A' A) {p N b:Nat} {cs ds:List V} (hp:szOf c.S p=some N) (ha:A' p=.agg cs) (hA:A p=ptrV b) (hl:ds.length=N):SimA c (upd H b ds) (putV A' (some p) (.agg ds)) A:=by
  refine ⟨fun t ht=>?_,fun q M hq=>?_,fun q M q2 M2 b2 hq hq2 h1 h2 h3 h4=>?_⟩
  · simp only [putV,if_neg (sp_ne ht hp)]; exact h.eq t ht
  · simp only [putV]
    by_cases e:q=p
    · subst e
      rw [hp] at hq; cases hq
      exact .inr ⟨b,ds,by simp,hl,hA,by simp [upd]⟩
    · rw [if_neg e]
      rcases h.live q M hq with e' | ⟨b',ds',e1,e2,e3,e4⟩
      · exact .inl e'
      · refine .inr ⟨b',ds',e1,e2,e3,?_⟩
        have:b' ≠ b:=fun k=>by
          subst k
          exact e (h.inj q M p N b' hq hp (by rw [e1]; simp) (by rw [ha]; simp) e3 hA)
        simp only [upd,if_neg this]; exact e4
  · have nz:∀ q,(putV A' (some p) (.agg ds)) q ≠ .und→A' q ≠ .und:=fun q hq=>by
      simp only [putV] at hq
      by_cases e:q=p
      · subst e; rw [ha]; simp
      · rw [if_neg e] at hq; exact hq
    exact h.inj q M q2 M2 b2 hq hq2 (nz q h1) (nz q2 h2) h3 h4
theorem PInv.kill (h:PInv c E L A' A) {d:Nat} {r r':V} (hd:∀ l ∈ killL L d,putV A' (some d) r' l.p=A' l.p):PInv c (killE E d) (killL L d) (putV A' (some d) r') (putV A (some d) r):=by
  refine ⟨fun e he=>?_,fun l hl=>?_⟩
  · simp only [killE,List.mem_filter,Bool.and_eq_true,bne_iff_ne,ne_eq,Bool.not_eq_true',List.contains_eq_mem,decide_eq_false_iff_not] at he
    obtain ⟨h1,⟨h2,h3⟩,h4⟩:=he
    obtain ⟨k1,k2⟩:=h.e e h1
    refine ⟨k1,fun hg=>?_⟩
    have hg':gH A e.g:=by
      cases hh:e.g with
      | none=>trivial
      | some sw =>
        obtain ⟨s,w⟩:=sw
        rw [hh] at hg h4
        simp only [gd,List.mem_singleton] at h4
        simp only [gH,putV] at hg ⊢
        rw [if_neg (fun e=>h4 e.symm)] at hg
        exact hg
    simp only [putV,if_neg h2,if_neg h3]
    exact k2 hg'
  · have hl0:=hl
    simp only [killL,List.mem_filter,Bool.and_eq_true,bne_iff_ne,ne_eq] at hl
    obtain ⟨h1,h2,h3⟩:=hl
    obtain ⟨k1,k2⟩:=h.l l h1
    refine ⟨k1,?_⟩
    have:=hd l hl0
    rw [this]
    simp only [putV,if_neg h2]
    exact k2
theorem killL_ne {d:Nat} {l:PL} (h:l ∈ killL L d):l.p ≠ d:=by
  simp only [killL,List.mem_filter,Bool.and_eq_true,bne_iff_ne,ne_eq] at h
  exact h.2.2
theorem PInv.killB (h:PInv c E L A' A) {d:Nat} {r r':V}:PInv c (killE E d) (killL L d) (putV A' (some d) r') (putV A (some d) r) :=
  h.kill fun l hl=>by simp only [putV,if_neg (killL_ne hl)]
theorem PInv.killO (h:PInv c E L A' A) {d:Option Nat} {r r':V}:PInv c (killEo E d) (killLo L d) (putV A' d r') (putV A d r):=by
  cases d with
  | none=>exact h
  | some d=>exact h.killB
theorem PInv.killR (h:PInv c E L A' A) {d:Nat} {r:V}:PInv c (killE E d) (killL L d) A' (putV A (some d) r):=by
  have:=h.killB (d:=d) (r:=r) (r':=A' d)
  have e:putV A' (some d) (A' d)=A':=funext fun t=>by
    simp only [putV]; split
    · rename_i e; rw [e]
    · rfl
  rw [e] at this
  exact this
theorem PInv.putL (h:PInv c E L A' A) {d:Nat} (hd:szOf c.S d=none) {r':V}:PInv c E L (putV A' (some d) r') A:=by
  refine ⟨h.e,fun l hl=>?_⟩
  obtain ⟨k1,k2⟩:=h.l l hl
  refine ⟨k1,?_⟩
  have:l.p ≠ d:=fun e=>by rw [e,hd] at k1; cases k1
  simp only [putV,if_neg this]
  exact k2
theorem addr_at (hS:SimA c H A' A) (hI:PInv c E L A' A) {x:X} {p N off:Nat} {g:Gd} (h:c.addr E x=some (p,N,off,g)) (hg:gH A g) {cs:List V} (ha:A' p=.agg cs) :
    szOf c.S p=some N∧∃ b,A p=ptrV b∧H b=some cs∧cs.length=N∧x.ev A=.sc (.pointer (some ⟨b,off,none⟩)):=by
  cases x with
  | c v=>cases h
  | t a =>
    simp only [PC.addr] at h
    split at h
    · rename_i M hM
      simp only [Option.some.injEq,Prod.mk.injEq] at h
      obtain ⟨rfl,rfl,rfl,rfl⟩:=h
      rcases hS.live a M hM with e | ⟨b,ds,e1,e2,e3,e4⟩
      · rw [ha] at e; cases e
      · rw [ha] at e1; cases e1
        exact ⟨hM,b,e3,e4,e2,e3⟩
    · split at h
      · rename_i e he
        split at h
        · rename_i M hM
          simp only [Option.some.injEq,Prod.mk.injEq] at h
          obtain ⟨rfl,rfl,rfl,rfl⟩:=h
          have hm:=List.mem_of_find?_eq_some he
          have hd:=List.find?_some he
          simp only [beq_iff_eq] at hd
          obtain ⟨b,k1,k2⟩:=(hI.e e hm).2 hg
          rcases hS.live e.p M hM with e' | ⟨b',ds,e1,e2,e3,e4⟩
          · rw [ha] at e'; cases e'
          · rw [ha] at e1; cases e1
            rw [k1] at e3
            simp only [ptrV,V.sc.injEq,Value.pointer.injEq,Option.some.injEq,Addr.mk.injEq] at e3
            obtain ⟨rfl,_⟩:=e3
            exact ⟨hM,b,k1,e4,e2,by rw [← hd]; exact k2⟩
        · cases h
      · cases h
theorem addr_var {x:X} {p N off:Nat} {g:Gd} (h:c.addr E x=some (p,N,off,g)):szOf c.S p=some N:=by
  cases x with
  | c v=>cases h
  | t a =>
    simp only [PC.addr] at h
    split at h
    · rename_i M hM
      simp only [Option.some.injEq,Prod.mk.injEq] at h
      obtain ⟨rfl,rfl,rfl,rfl⟩:=h
      exact hM
    · split at h
      · split at h
        · rename_i M hM
          simp only [Option.some.injEq,Prod.mk.injEq] at h
          obtain ⟨rfl,rfl,rfl,rfl⟩:=h
          exact hM
        · cases h
      · cases h
theorem eqn_eq {a b:Option Nat} (h:eqn a b=true):a=b:=by
  cases a <;> cases b <;> simp_all [eqn]
theorem vload_at {b off:Nat} {n:Option Nat} {cs:List V} (hb:s.box b=some cs):vload s n (.sc (.pointer (some ⟨b,off,none⟩)))=takeB cs off n:=by
  simp only [vload,hb]
theorem obs_hide (hS:SimA c H A' A) (hH:Hid H s' s) (hI:PInv c E L A' A):∀ {l q:List (Option Nat × X × Nat)},c.obs E L l=some q→obsOk s' A' q→obsOk s A l
  | [],q,_,_=>trivial
  | (n,x,d) :: r,q,h,ho=>by
    simp only [PC.obs] at h
    split at h
    · rename_i p N off ha
      split at h
      · rename_i hany
        have ih:=obs_hide hS hH hI h ho
        refine ⟨?_,ih⟩
        obtain ⟨l,hl,he⟩:=List.any_eq_true.1 hany
        simp only [Bool.and_eq_true,beq_iff_eq] at he
        obtain ⟨⟨⟨rfl,rfl⟩,rfl⟩,e4⟩:=he
        have e4:=eqn_eq e4
        subst e4
        split
        · trivial
        · rename_i hne
          rcases (hI.l l hl).2 with e | ⟨cs,e1,e2,e3⟩
          · exact absurd e hne
          · obtain ⟨_,b,_,k2,_,k3⟩:=addr_at hS hI ha trivial e1
            rw [k3,vload_at (hH.hb k2)]
            exact ⟨e2,e3⟩
      · cases h
    · cases h
    · split at h
      · rename_i hx
        simp only [Bool.and_eq_true,Bool.not_eq_true'] at hx
        simp only [Option.map_eq_some_iff] at h
        obtain ⟨q',hq',rfl⟩:=h
        refine ⟨?_,obs_hide hS hH hI hq' ho.2⟩
        have h1:=ho.1
        have hxe:x.ev A'=x.ev A:=X.ev_congr fun t ht=>hS.eq t (PC.xs_mem hx.1 t ht)
        rw [hS.eq d hx.2,hxe] at h1
        split at h1
        · trivial
        · have:=vload_hide hH h1.1
          rw [this]
          exact h1
      · cases h
def gO (A:Nat→V):Gd→Prop
  | none=>False
  | some (s,w)=>A s=.und ∨ ∃ b,b ≠ w∧A s=.sc (.bool b)
theorem vguard_iff {g:Gd} {X Y:Prop}:vguard A g X Y ↔ (gH A g→X)∧(gO A g→Y)∧(gH A g ∨ gO A g):=by
  cases g with
  | none=>simp [vguard,gH,gO]
  | some sw =>
    obtain ⟨t,w⟩:=sw
    simp only [vguard,gH,gO]
    generalize A t=v
    constructor
    · intro h
      split at h
      · rename_i b
        by_cases e:b=w
        · subst e
          exact ⟨fun _=>h.1 rfl,fun k=>by simp at k,.inl rfl⟩
        · exact ⟨fun k=>by simp at k; exact absurd k e,fun _=>h.2 e,.inr (.inr ⟨b,e,rfl⟩)⟩
      · exact ⟨fun k=>by simp at k,fun _=>h,.inr (.inl rfl)⟩
      · exact h.elim
    · rintro ⟨h1,h2,h3⟩
      rcases h3 with h3 | h3 | ⟨b,hb,h3⟩
      · subst h3; exact ⟨fun _=>h1 rfl,fun k=>absurd rfl k⟩
      · subst h3; exact h2 (.inl rfl)
      · subst h3; exact ⟨fun k=>absurd k hb,fun _=>h2 (.inr ⟨b,hb,rfl⟩)⟩
theorem gH_sim (hS:SimA c H A' A) {g:Gd} (hg:∀ t ∈ gd g,c.sp t=false):(gH A' g ↔ gH A g)∧(gO A' g ↔ gO A g):=by
  cases g with
  | none=>exact ⟨Iff.rfl,Iff.rfl⟩
  | some sw =>
    have:=hS.eq sw.1 (hg sw.1 (by simp [gd]))
    simp only [gH,gO,this,and_self]
theorem guard_hide (hS:SimA c H A' A) {g:Gd} (hg:∀ t ∈ gd g,c.sp t=false) {X Y X' Y':Prop} (h:vguard A' g X' Y') (h1:gH A g→X'→X) (h2:gO A g→Y'→Y):vguard A g X Y:=by
  rw [vguard_iff] at h ⊢
  have e:=gH_sim hS hg
  exact ⟨fun k=>h1 k (h.1 (e.1.2 k)),fun k=>h2 k (h.2.1 (e.2.2 k)),h.2.2.imp e.1.1 e.2.1⟩
theorem gLe_of {g h:Gd} (hl:gLe g h=true) (hh:gH A h):gH A g:=by
  cases g with
  | none=>trivial
  | some sw=>cases h with
    | none=>cases hl
    | some s2 =>
      obtain ⟨a,b⟩:=sw
      obtain ⟨a2,b2⟩:=s2
      simp only [gLe,Bool.and_eq_true,beq_iff_eq] at hl
      obtain ⟨rfl,rfl⟩:=hl
      exact hh
theorem vops_append {K:(Nat→V)→St→Prop}:∀ {l m:List VO} {A:Nat→V} {s:St},vops P K (l ++ m) A s=vops P (vops P K m) l A s
  | [],m,A,s=>rfl
  | o :: l,m,A,s=>by
    simp only [List.cons_append,vops]
    have e:∀ {A:Nat→V} {s:St},vops P K (l ++ m) A s=vops P (vops P K m) l A s:=vops_append
    simp only [e]
end
end
section
open Go Go.RowKit
section
variable {P:Program} {c:PC} {H:Nat→Option (List V)} {s' s:St} {A' A:Nat→V} {E:List PE} {L:List PL} {K' K:(Nat→V)→St→Prop}
def VO.bare (o:VO):VO:={ o with g:=none }
theorem gH_put {g:Gd} {d:Option Nat} {r:V} (hd:∀ t ∈ d.toList,t ∉ gd g):(gH (putV A d r) g ↔ gH A g)∧(gO (putV A d r) g ↔ gO A g):=by
  cases d with
  | none=>exact ⟨Iff.rfl,Iff.rfl⟩
  | some d=>cases g with
    | none=>exact ⟨Iff.rfl,Iff.rfl⟩
    | some sw =>
      have hne:sw.1 ≠ d:=fun e=>hd d (by simp) (by simp [gd,e])
      simp only [gH,gO,putV,if_neg hne,and_self]
def skipO:List VO→(Nat→V)→(Nat→V)
  | [],A=>A
  | o :: l,A=>skipO l (putV A o.dst .und)
theorem vops_on {g:Gd}:∀ {l:List VO} {A:Nat→V} {s:St},(∀ o ∈ l,o.g=g∧o.op.isPop=true∧∀ t ∈ o.dst.toList,t ∉ gd g)→gH A g→vops P K l A s→vops P K (l.map VO.bare) A s
  | [],A,s,_,_,h=>h
  | o :: l,A,s,hl,hg,h=>by
    obtain ⟨h1,h2,h3⟩:=hl o (by simp)
    simp only [vops,h1] at h
    have h:=(vguard_iff.1 h).1 hg
    have hp:vop P o.op s A (fun r st'=>obsOk st' A o.obs∧vops P K l (putV A o.dst r) st')=((pop s A o.op).1∧obsOk s A o.obs∧vops P K l (putV A o.dst (pop s A o.op).2) s):=by
      cases ho:o.op <;> first | rfl | (rw [ho] at h2; simp [VOp.isPop] at h2)
    rw [hp] at h
    have hp':vop P o.bare.op s A (fun r st'=>obsOk st' A o.bare.obs∧vops P K (l.map VO.bare) (putV A o.bare.dst r) st')=((pop s A o.op).1∧obsOk s A o.obs∧vops P K (l.map VO.bare) (putV A o.dst (pop s A o.op).2) s):=by
      simp only [VO.bare]
      cases ho:o.op <;> first | rfl | (rw [ho] at h2; simp [VOp.isPop] at h2)
    simp only [List.map_cons,vops]
    show vguard A none _ _
    simp only [vguard]
    rw [hp']
    exact ⟨h.1,h.2.1,vops_on (fun o ho=>hl o (by simp [ho])) ((gH_put h3).1.2 hg) h.2.2⟩
theorem vops_off {g:Gd}:∀ {l:List VO} {A:Nat→V} {s:St},(∀ o ∈ l,o.g=g∧o.op.isPop=true∧∀ t ∈ o.dst.toList,t ∉ gd g)→gO A g→vops P K l A s→K (skipO l A) s
  | [],A,s,_,_,h=>h
  | o :: l,A,s,hl,hg,h=>by
    obtain ⟨h1,h2,h3⟩:=hl o (by simp)
    simp only [vops,h1] at h
    exact vops_off (A:=putV A o.dst .und) (fun o ho=>hl o (by simp [ho])) ((gH_put h3).2.2 hg) ((vguard_iff.1 h).2.1 hg)
theorem vops_some {g:Gd} {o:VO} {l:List VO} (h1:o.g=g) (h:vops P K (o :: l) A s):gH A g ∨ gO A g:=by
  simp only [vops,h1] at h
  exact (vguard_iff.1 h).2.2
abbrev Aft (c:PC) (E:List PE) (L:List PL) (K' K:(Nat→V)→St→Prop):Prop:=∀ H A' s' A s,SimA c H A' A→Hid H s' s→PInv c E L A' A→K' A' s'→K A s
abbrev Ran (P:Program) (o:VO) (K:(Nat→V)→St→Prop) (A:Nat→V) (s:St):Prop:=vguard A o.g (vop P o.op s A fun r t=>obsOk t A o.obs∧K (putV A o.dst r) t) (K (putV A o.dst .und) s)
theorem plain_sound {o:VO} {ws:List VO} {E2:List PE} {L2:List PL} (h:c.plain E L o=some (ws,E2,L2)) (hS:SimA c H A' A) (hH:Hid H s' s) (hI:PInv c E L A' A) (hv:vops P K' ws A' s') (hk:Aft c E2 L2 K' K):Ran P o K A s:=by
  unfold PC.plain at h
  split at h
  · rename_i q hq
    split at h
    · rename_i hx
      simp only [Option.some.injEq,Prod.mk.injEq] at h
      obtain ⟨rfl,rfl,rfl⟩:=h
      have hx':=PC.xs_mem hx
      have hd:∀ t ∈ o.dst.toList,c.sp t=false:=fun t ht=>hx' t (by simp only [List.mem_append]; exact .inr ht)
      simp only [vops] at hv
      refine guard_hide hS (fun t ht=>hx' t (by simp only [List.mem_append]; exact .inl (.inl ht))) hv (fun _ hy=>?_) (fun _ hy=>hk H _ s' _ s (hS.putO hd) hH hI.killO hy)
      rw [vop_congr (B:=A) (fun t ht=>hS.eq t (hx' t (by simp only [List.mem_append]; exact .inl (.inr ht))))] at hy
      exact vop_hide hH hy fun r t' t ⟨k1,k2⟩ hH2=>⟨obs_hide hS hH2 hI hq k1,hk H _ t' _ t (hS.putO hd) hH2 hI.killO k2⟩
    · cases h
  · cases h
theorem born_sound {o w:VO} {p N:Nat} {ws:List VO} {E2:List PE} {L2:List PL} (hp:szOf c.S p=some N) (hd:o.dst=some p) (h:c.born E L o w p=some (ws,E2,L2)) (hS:SimA c H A' A) (hH:Hid H s' s) (hI:PInv c E L A' A) :
    o.g=none∧ws=[w]∧∀ {z:List V} {b:Nat},z.length=N→H b=none→s'.box b=none→Aft c E2 L2 K' K→K' (putV A' (some p) (.agg z)) s'→obsOk (s.put b z) A o.obs∧K (putV A o.dst (ptrV b)) (s.put b z):=by
  unfold PC.born at h
  split at h
  · rename_i hq hg
    simp only [Option.some.injEq,Prod.mk.injEq] at h
    obtain ⟨rfl,rfl,rfl⟩:=h
    refine ⟨hg,rfl,fun {z b} hl hb hb' hk hv=>?_⟩
    obtain ⟨S1,S2⟩:=hS.born hp hl hb
    have hT:=hH.turn hb' (cs:=z)
    exact ⟨obs_hide S2 hT hI hq trivial,by rw [hd]; exact hk _ _ _ _ _ S1 hT hI.killB hv⟩
  · cases h
theorem fv_agg {off:Nat} {n:Option Nat} {v:V} (h:(vfv off n v).1):∃ cs,v=.agg cs:=by
  unfold vfv at h
  split at h
  · exact ⟨_,rfl⟩
  · exact ⟨_,rfl⟩
  · exact h.elim
theorem splice_all {N:Nat} {ds:List V} (h:ds.length=N) {a:V}:splice (List.replicate N a) 0 ds=ds:=by
  simp only [splice,List.take_zero,List.nil_append,Nat.zero_add]
  rw [List.drop_eq_nil_of_le (by simp [h]),List.append_nil]
theorem mono_one {N:Nat} {cs:List V} (hl:cs.length=N) (h:N=1→∀ c0,cs[0]?=some c0→c0.cells.length=1):mono cs:=by
  by_cases e:N=1
  · subst e
    match cs,hl with
    | [c0],_ =>
      have:=h rfl c0 rfl
      cases c0 <;> first | rfl | simp [V.cells] at this
  · exact mono_len (by omega)
theorem one_sound {p N:Nat} {l:List VO} (hv:vops P K' ((c.one p N none).map VO.bare ++ l) A' s') (hsc:szOf c.S c.scr=none) {cs:List V} (ha:A' p=.agg cs) :
    ∃ A2,(A2=A' ∨ ∃ r,A2=putV A' (some c.scr) r)∧vops P K' l A2 s'∧(N=1→∀ c0,cs[0]?=some c0→c0.cells.length=1):=by
  unfold PC.one at hv
  split at hv
  · rename_i e
    simp only [List.map_cons,List.map_nil,List.cons_append,List.nil_append,VO.bare,chk,vops,vguard,vop,pop,X.ev,ha,vfv,List.map_cons,List.map_nil,fillV,putV] at hv
    obtain ⟨h1,_,h2,_,h3⟩:=hv
    split at h1
    · rename_i c0 hc0
      refine ⟨_,.inr ⟨_,rfl⟩,h3,fun _ c1 hc1=>?_⟩
      rw [hc0] at hc1; cases hc1
      simp only [hc0] at h2
      exact h2.1
    · exact h1.elim
  · rename_i e
    exact ⟨_,.inl rfl,hv,fun k=>absurd k e⟩
theorem fresh_box (hH:Hid H s' s) {b:Nat} (hb:s.sz≤b):s'.box b=none:=by
  cases h:s'.box b with
  | none=>rfl
  | some cs=>have:=hH.lt.box b cs h; have:=hH.sz; omega
theorem splice_len {cs ds:List V} {off k:Nat} (h:ds.length=k) (hk:off + k≤cs.length):(splice cs off ds).length=cs.length:=by
  simp only [splice,List.length_append,List.length_take,List.length_drop]
  omega
theorem splice_get {cs ds:List V} {off k i:Nat} (h:ds.length=k) (hk:off + k≤cs.length) (hi:i < off ∨ off + k≤i):(splice cs off ds)[i]?=cs[i]?:=by
  simp only [splice]
  have e1:(cs.take off).length=off:=by simp only [List.length_take]; omega
  rcases hi with hi | hi
  · rw [List.append_assoc,List.getElem?_append_left (by omega),List.getElem?_take,if_pos hi]
  · rw [List.getElem?_append_right (by simp only [List.length_append]; omega),List.getElem?_drop]
    congr 1
    simp only [List.length_append]
    omega
theorem takeB_beside {cs ds:List V} {off k o:Nat} {n:Option Nat} (h:ds.length=k) (hk:off + k≤cs.length) (hd:o + n.getD 1≤off ∨ off + k≤o) (h0:0 < k) (h1:(takeB cs o n).1) (hm:mono (splice cs off ds)):(takeB (splice cs off ds) o n).1∧(takeB (splice cs off ds) o n).2=(takeB cs o n).2:=by
  cases n with
  | none =>
    simp only [Option.getD_none] at hd
    have e:=splice_get (i:=o) h hk (by omega)
    simp only [takeB,takeV,e] at h1 ⊢
    exact ⟨h1,trivial⟩
  | some m =>
    simp only [Option.getD_some] at hd
    simp only [takeB,takeV] at h1 ⊢
    refine ⟨⟨by rw [splice_len h hk]; exact h1.1,hm⟩,?_⟩
    congr 1
    refine List.ext_getElem? fun i=>?_
    simp only [List.getElem?_take,List.getElem?_drop]
    split
    · exact splice_get h hk (by omega)
    · rfl
theorem ran_of {o:VO} {ws:List VO} (hS:SimA c H A' A) (hg:∀ t ∈ gd o.g,c.sp t=false) (hl:∀ w ∈ ws,w.g=o.g∧w.op.isPop=true∧∀ t ∈ w.dst.toList,t ∉ gd o.g) (hne:ws ≠ []) (hv:vops P K' ws A' s')
    (h1:gH A o.g→vops P K' (ws.map VO.bare) A' s'→vop P o.op s A fun r t=>obsOk t A o.obs∧K (putV A o.dst r) t) (h2:gO A o.g→K' (skipO ws A') s'→K (putV A o.dst .und) s):Ran P o K A s:=by
  have e:=gH_sim hS hg
  refine vguard_iff.2 ⟨fun k=>h1 k (vops_on hl (e.1.2 k) hv),fun k=>h2 k (vops_off hl (e.2.2 k) hv),?_⟩
  cases ws with
  | nil=>exact absurd rfl hne
  | cons w l=>exact (vops_some (hl w (by simp)).1 hv).imp e.1.1 e.2.1
end
end
section
open Go Go.RowKit
section
variable {P:Program} {c:PC} {H:Nat→Option (List V)} {s' s:St} {A' A:Nat→V} {E:List PE} {L:List PL} {K' K:(Nat→V)→St→Prop}
theorem not_var {d:Nat} (h:c.sp d=false):szOf c.S d=none:=by
  cases hz:szOf c.S d with
  | none=>rfl
  | some N=>rw [sp_var hz] at h; cases h
theorem alias_sound {o:VO} {p N off d:Nat} {x:X} {g:Gd} {o1:Nat} (hS:SimA c H A' A) (hH:Hid H s' s) (hI:PInv c E L A' A) (hd:o.dst=some d) (hdn:szOf c.S d=none) (ho:o.obs=[]) (ha:c.addr E x=some (p,N,off,g)) (hg:gLe g o.g=true) (hD:c.sp d=true) (hx:c.xs (gd o.g)=true)
    (hop:∀ b,x.ev A=.sc (.pointer (some ⟨b,off,none⟩))→(pop s A o.op).1∧(pop s A o.op).2=.sc (.pointer (some ⟨b,o1,none⟩))) (hp:o.op.isPop=true)
    (hv:vops P K' [⟨none,.fv 0 none (.t p),o.g,[]⟩] A' s') (hk:Aft c (⟨d,p,o1,o.g⟩ :: killE E d) (killL L d) K' K):Ran P o K A s:=by
  have hxm:=PC.xs_mem hx
  have hpv:=addr_var ha
  have hpd:p ≠ d:=fun e=>by subst e; rw [hpv] at hdn; cases hdn
  have inv:∀ r,(gH (putV A (some d) r) o.g→∃ b,A p=ptrV b∧r=.sc (.pointer (some ⟨b,o1,none⟩)))→PInv c (⟨d,p,o1,o.g⟩ :: killE E d) (killL L d) A' (putV A (some d) r):=fun r hr=>by
    have hK:=hI.killR (d:=d) (r:=r)
    refine ⟨fun e he=>?_,hK.l⟩
    rcases List.mem_cons.1 he with rfl | he
    · refine ⟨by simp [hpv],fun hgh=>?_⟩
      obtain ⟨b,k1,k2⟩:=hr hgh
      exact ⟨b,by simp only [putV,if_neg hpd]; exact k1,by simp only [putV]; exact k2⟩
    · exact hK.e e he
  refine ran_of hS hxm (fun w hw=>?_) (by simp) hv (fun hgo hw=>?_) (fun hgo hw=>?_)
  · simp only [List.mem_singleton] at hw; subst hw
    exact ⟨rfl,rfl,fun t ht=>by simp at ht⟩
  · simp only [List.map_cons,List.map_nil,VO.bare,vops,vguard,vop,pop,X.ev] at hw
    obtain ⟨h1,_,h2⟩:=hw
    obtain ⟨cs,hcs⟩:=fv_agg h1
    obtain ⟨_,b,k1,k2,k3,k4⟩:=addr_at hS hI ha (gLe_of hg hgo) hcs
    obtain ⟨j1,j2⟩:=hop b k4
    have:vop P o.op s A (fun r t=>obsOk t A o.obs∧K (putV A o.dst r) t)=((pop s A o.op).1∧obsOk s A o.obs∧K (putV A o.dst (pop s A o.op).2) s):=by
      cases hq:o.op <;> first | rfl | (rw [hq] at hp; simp [VOp.isPop] at hp)
    rw [this,ho,hd,j2]
    exact ⟨j1,trivial,hk H A' s' _ s (hS.putR hdn hD) hH (inv _ fun _=>⟨b,k1,rfl⟩) h2⟩
  · rw [hd]
    refine hk H A' s' _ s (hS.putR hdn hD) hH (inv _ fun hgh=>?_) hw
    exfalso
    cases hgg:o.g with
    | none=>rw [hgg] at hgo; exact hgo
    | some sw =>
      rw [hgg] at hgo hgh
      simp only [gH,gO,putV] at hgo hgh
      split at hgh
      · cases hgh
      · rw [hgh] at hgo; simp at hgo
theorem load_sound {o:VO} {p N off d:Nat} {x:X} {g:Gd} {n:Option Nat} (hS:SimA c H A' A) (hH:Hid H s' s) (hI:PInv c E L A' A) (hsc:szOf c.S c.scr=none) (hop:o.op=.load n x) (hd:o.dst=some d) (ho:o.obs=[]) (ha:c.addr E x=some (p,N,off,g)) (hg:gLe g o.g=true) (hD:c.sp d=false) (hx:c.xs (gd o.g)=true) (hgd:(gd o.g).contains d=false)
    (hv:vops P K' (c.one p N o.g ++ ldo d p off n o.g) A' s') (hk:Aft c (killE E d) ((match o.g with | none=>[⟨d,n,p,off⟩] | some _=>[]) ++ killL L d) K' K):Ran P o K A s:=by
  have hxm:=PC.xs_mem hx
  have hpv:=addr_var ha
  have hdn:=not_var hD
  have hpd:p ≠ d:=fun e=>by subst e; rw [hpv] at hdn; cases hdn
  have hps:p ≠ c.scr:=fun e=>by subst e; rw [hpv] at hsc; cases hsc
  have hds:d ≠ c.scr:=fun e=>by subst e; simp [PC.sp] at hD
  have hsg:c.scr ∉ gd o.g:=fun hm=>by
    have:=hxm _ hm
    simp [PC.sp] at this
  have hgd':d ∉ gd o.g:=by simpa using hgd
  have spc:c.sp c.scr=true:=by simp [PC.sp]
  -- the outcome
  have fin:∀ (A2:Nat→V) (v v':V),(A2=A' ∨ ∃ r,A2=putV A' (some c.scr) r)→v'=v→(o.g=none→∃ cs,A' p=.agg cs∧(takeB cs off n).1∧(takeB cs off n).2=v)→K' (putV A2 (some d) v') s'→K (putV A (some d) v) s:=fun A2 v v' hA2 hvv hl hK=>by
    have S2:SimA c H A2 A:=by
      rcases hA2 with rfl | ⟨r,rfl⟩
      · exact hS
      · exact hS.putL hsc spc
    have I2:PInv c E L A2 A:=by
      rcases hA2 with rfl | ⟨r,rfl⟩
      · exact hI
      · exact hI.putL hsc
    have A2p:A2 p=A' p:=by
      rcases hA2 with rfl | ⟨r,rfl⟩
      · rfl
      · simp only [putV,if_neg hps]
    subst hvv
    have I3:=I2.killB (d:=d) (r:=v') (r':=v')
    refine hk H _ s' _ s (S2.put hdn fun _=>rfl) hH ⟨I3.e,fun l hl'=>?_⟩ hK
    rcases List.mem_append.1 hl' with hm | hm
    · cases hgg:o.g with
      | none =>
        rw [hgg] at hm
        simp only [List.mem_singleton] at hm
        subst hm
        obtain ⟨cs,q1,q2,q3⟩:=hl hgg
        exact ⟨by simp [hpv],.inr ⟨cs,by simp only [putV,if_neg hpd]; rw [A2p]; exact q1,q2,by simp only [putV]; exact q3⟩⟩
      | some sw=>rw [hgg] at hm; simp at hm
    · exact I3.l l hm
  refine ran_of hS hxm (fun w hw=>?_) (by cases n <;> simp [ldo]) hv (fun hgo hw=>?_) (fun hgo hw=>?_)
  · rcases List.mem_append.1 hw with hw | hw
    · unfold PC.one at hw
      split at hw
      · rcases List.mem_cons.1 hw with rfl | hw
        · exact ⟨rfl,rfl,fun t ht=>by simp at ht; subst ht; exact hsg⟩
        · simp only [List.mem_singleton] at hw; subst hw
          exact ⟨rfl,rfl,fun t ht=>by simp [chk] at ht⟩
      · cases hw
    · unfold ldo at hw
      cases n with
      | none =>
        rcases List.mem_cons.1 hw with rfl | hw
        · exact ⟨rfl,rfl,fun t ht=>by simp at ht; subst ht; exact hgd'⟩
        · simp only [List.mem_singleton] at hw; subst hw
          exact ⟨rfl,rfl,fun t ht=>by simp [chk] at ht⟩
      | some k =>
        simp only [List.mem_singleton] at hw; subst hw
        exact ⟨rfl,rfl,fun t ht=>by simp at ht; subst ht; exact hgd'⟩
  · rw [List.map_append] at hw
    unfold ldo at hw
    have hone:(c.one p N o.g).map VO.bare=(c.one p N none).map VO.bare:=by
      unfold PC.one
      split <;> rfl
    rw [hone] at hw
    have hagg:∃ cs,A' p=.agg cs:=by
      have hl:=hS.live p N hpv
      rcases hl with e | ⟨b,cs,e1,_⟩
      · exfalso
        unfold PC.one at hw
        split at hw
        · simp only [List.map_cons,List.map_nil,List.cons_append,VO.bare,vops,vguard,vop,pop,X.ev,e,vfv] at hw
          exact hw.1
        · cases n with
          | none =>
            simp only [List.map_cons,List.map_nil,List.nil_append,VO.bare,vops,vguard,vop,pop,X.ev,e,vfv] at hw
            exact hw.1
          | some k =>
            simp only [List.map_cons,List.map_nil,List.nil_append,VO.bare,vops,vguard,vop,pop,X.ev,e,vfv] at hw
            exact hw.1
      · exact ⟨cs,e1⟩
    obtain ⟨cs,hcs⟩:=hagg
    obtain ⟨A2,hA2,hw,hmo⟩:=one_sound hw hsc hcs
    obtain ⟨_,b,k1,k2,k3,k4⟩:=addr_at hS hI ha (gLe_of hg hgo) hcs
    have A2p:A2 p=.agg cs:=by
      rcases hA2 with rfl | ⟨r,rfl⟩
      · exact hcs
      · simp only [putV,if_neg hps]; exact hcs
    have hld:vload s n (x.ev A)=takeB cs off n:=by rw [k4]; exact vload_at (hH.hb k2)
    rw [hop,ho,hd]
    show (pop s A (.load n x)).1∧True∧K (putV A (some d) (pop s A (.load n x)).2) s
    simp only [pop,hld]
    cases n with
    | none =>
      simp only [List.map_cons,List.map_nil,VO.bare,chk,vops,vguard,vop,pop,X.ev,A2p,vfv] at hw
      obtain ⟨h1,_,h2,_,h3⟩:=hw
      split at h1
      · rename_i c0 hc0
        simp only [hc0,putV,fillV] at h2 h3
        have e2:takeB cs off none=(c0.cells.length=1,c0):=by simp only [takeB,takeV,hc0]
        rw [e2]
        refine ⟨h2.1,trivial,fin A2 c0 c0 hA2 rfl (fun _=>⟨cs,hcs,by rw [e2]; exact h2.1,by rw [e2]⟩) h3⟩
      · exact h1.elim
    | some k =>
      simp only [List.map_cons,List.map_nil,VO.bare,vops,vguard,vop,pop,X.ev,A2p,vfv] at hw
      obtain ⟨h1,_,h3⟩:=hw
      have hm:mono cs:=mono_one k3 hmo
      refine ⟨⟨h1,hm⟩,trivial,fin A2 _ _ hA2 rfl (fun _=>⟨cs,hcs,⟨h1,hm⟩,rfl⟩) h3⟩
  · rw [hd]
    have hskip:∃ A2,(A2=A' ∨ ∃ r,A2=putV A' (some c.scr) r)∧skipO (c.one p N o.g ++ ldo d p off n o.g) A'=putV A2 (some d) .und:=by
      unfold PC.one ldo
      split
      · exact ⟨_,.inr ⟨_,rfl⟩,by cases n <;> rfl⟩
      · exact ⟨_,.inl rfl,by cases n <;> rfl⟩
    obtain ⟨A2,hA2,he⟩:=hskip
    rw [he] at hw
    exact fin A2 .und .und hA2 rfl (fun e=>by rw [e] at hgo; exact hgo.elim) hw
theorem pstore_sound {o:VO} {p N off k:Nat} {x y:X} (hS:SimA c H A' A) (hH:Hid H s' s) (hI:PInv c E L A' A) (hsc:szOf c.S c.scr=none) (hop:o.op=.store k x y) (hd:o.dst=none) (hgn:o.g=none) (ha:c.addr E x=some (p,N,off,none)) (hob:c.obs E (killS L p off k) o.obs=some []) (hy:c.xs y.reads=true)
    (hv:vops P K' (c.one p N none ++ [⟨some p,.bld (List.replicate N .any) [(0,N,.t p),(off,k,y)],none,[]⟩]) A' s') (hk:Aft c E (killS L p off k) K' K):Ran P o K A s:=by
  have hpv:=addr_var ha
  have hps:p ≠ c.scr:=fun e=>by subst e; rw [hpv] at hsc; cases hsc
  have spc:c.sp c.scr=true:=by simp [PC.sp]
  have hone:c.one p N none=(c.one p N none).map VO.bare:=by unfold PC.one; split <;> rfl
  rcases hS.live p N hpv with e | ⟨b,cs,hcs,hl,hA,hb⟩
  · exfalso
    unfold PC.one at hv
    split at hv
    · simp only [List.cons_append,vops,vguard,vop,pop,X.ev,e,vfv] at hv
      exact hv.1
    · simp only [List.nil_append,vops,vguard,vop,pop,X.ev,e,List.map_cons,fillV,V.cells,List.length_nil] at hv
      have:=hv.1
      omega
  · rw [hone] at hv
    obtain ⟨A2,hA2,hw,hmo⟩:=one_sound hv hsc hcs
    obtain ⟨_,b',k1,k2,k3,k4⟩:=addr_at hS hI ha trivial hcs
    rw [hA] at k1
    simp only [ptrV,V.sc.injEq,Value.pointer.injEq,Option.some.injEq,Addr.mk.injEq] at k1
    obtain ⟨rfl,_⟩:=k1
    have A2p:A2 p=.agg cs:=by
      rcases hA2 with rfl | ⟨r,rfl⟩
      · exact hcs
      · simp only [putV,if_neg hps]; exact hcs
    have S2:SimA c H A2 A:=by
      rcases hA2 with rfl | ⟨r,rfl⟩
      · exact hS
      · exact hS.putL hsc spc
    have I2:PInv c E L A2 A:=by
      rcases hA2 with rfl | ⟨r,rfl⟩
      · exact hI
      · exact hI.putL hsc
    have hye:y.ev A2=y.ev A:=X.ev_congr fun t ht=>S2.eq t (PC.xs_mem hy t ht)
    have ep:X.ev A2 (.t p)=.agg cs:=A2p
    have ec:(V.agg cs).cells=cs:=_root_.id rfl
    simp only [vops,vguard,vop,pop,ep,hye,List.map_cons,List.map_nil,fillV,ec,splice_all hl] at hw
    obtain ⟨⟨_,h0,_,h1,h2,h3,_⟩,_,h4⟩:=hw
    have hm:mono cs:=mono_one k3 hmo
    have hlen:(splice cs off (y.ev A).cells).length=N:=by rw [splice_len h1 h3]; exact hl
    have T:=S2.turn hpv A2p hA hlen
    have HT:=hH.turn (hH.no b cs hb).1 (cs:=splice cs off (y.ev A).cells)
    have hm2:∀ l ∈ killS L p off k,l ∈ L∧(l.p ≠ p ∨ l.n.getD 1 ≠ 0∧(l.off + l.n.getD 1≤off ∨ off + k≤l.off)):=fun l hl=>by
      simp only [killS,List.mem_filter,Bool.or_eq_true,Bool.and_eq_true,bne_iff_ne,ne_eq,decide_eq_true_eq] at hl
      exact hl
    have takeM:∀ {o:Nat} {n:Option Nat},(n.getD 1 ≠ 0∧(o + n.getD 1≤off ∨ off + k≤o))→(takeB cs o n).1→mono (splice cs off (y.ev A).cells):=fun {o n} hdis ht=>by
      refine mono_len ?_
      rw [hlen]
      have:o + n.getD 1≤cs.length:=by
        cases n with
        | none =>
          simp only [takeB,takeV] at ht
          split at ht
          · rename_i hc; have:=(List.getElem?_eq_some_iff.1 hc).1; simp; omega
          · exact ht.elim
        | some m=>simp only [takeB,takeV] at ht; simpa using ht.1
      omega
    have I3:PInv c E (killS L p off k) (putV A2 (some p) (.agg (splice cs off (y.ev A).cells))) A:=by
      refine ⟨I2.e,fun l hl=>?_⟩
      obtain ⟨q1,q2⟩:=hm2 l hl
      obtain ⟨j1,j2⟩:=I2.l l q1
      refine ⟨j1,?_⟩
      by_cases e:l.p=p
      · rcases j2 with j2 | ⟨ds,j2,j3,j4⟩
        · exact .inl j2
        · rw [e,A2p] at j2; cases j2
          have hdis:=q2.resolve_left (fun h=>h e)
          have:=takeB_beside h1 h3 hdis.2 h2 j3 (takeM hdis j3)
          exact .inr ⟨splice cs off (y.ev A).cells,by rw [e]; simp [putV],this.1,by rw [this.2]; exact j4⟩
      · simp only [putV,if_neg e]
        exact j2
    refine vguard_iff.2 ⟨fun _=>?_,fun hg=>by rw [hgn] at hg; exact hg.elim,.inl (by rw [hgn]; trivial)⟩
    rw [hop,hd]
    show vstore k (x.ev A) (y.ev A) s (fun t=>obsOk t A o.obs∧K (putV A none .und) t)
    unfold vstore
    rw [k4]
    simp only [hH.hb hb]
    have I0:PInv c E (killS L p off k) (putV A2 (some p) (.agg (splice cs off (y.ev A).cells))) A:=I3
    refine ⟨h1,h2,h3,hm,obs_hide T HT I0 hob trivial,hk _ _ _ _ _ T HT I3 h4⟩
theorem op_sound {o:VO} {ws:List VO} {E2:List PE} {L2:List PL} (h:c.op E L o=some (ws,E2,L2)) (hsc:szOf c.S c.scr=none) (hS:SimA c H A' A) (hH:Hid H s' s) (hI:PInv c E L A' A) (hv:vops P K' ws A' s') (hk:Aft c E2 L2 K' K):Ran P o K A s:=by
  have pl:c.plain E L o=some (ws,E2,L2)→Ran P o K A s:=fun h=>plain_sound h hS hH hI hv hk
  unfold PC.op at h
  split at h
  · rename_i N hN
    obtain ⟨p,hp,hpN⟩:=Option.bind_eq_some_iff.1 hN
    have nop:∀ {g:Gd} {X Y:Prop},o.g=none→X→vguard A o.g X Y:=fun e h=>by rw [e]; exact h
    have alc:∀ {z:List V},z.length=N→N ≠ 0→c.born E L o ⟨some p,.mv (.c (.agg z)),none,[]⟩ p=some (ws,E2,L2)→∀ b,H b=none→s'.box b=none→o.g=none∧obsOk (s.put b z) A o.obs∧K (putV A o.dst (ptrV b)) (s.put b z):=fun hl h0 hb b h1 h2=>by
      obtain ⟨q1,q2,q3⟩:=born_sound (K':=K') (K:=K) hpN hp hb hS hH hI
      subst q2
      exact ⟨q1,q3 hl h1 h2 hk hv.2.2⟩
    have bxs:∀ {x:X},N ≠ 0→c.xs x.reads=true→c.born E L o ⟨some p,.bld (List.replicate N .any) [(0,N,x)],none,[]⟩ p=some (ws,E2,L2)→o.g=none∧(x.ev A).cells.length ≠ 0∧∀ b,H b=none→s'.box b=none→obsOk (s.put b (x.ev A).cells) A o.obs∧K (putV A o.dst (ptrV b)) (s.put b (x.ev A).cells):=fun {x} h0 hx hb=>by
      obtain ⟨q1,q2,q3⟩:=born_sound (K':=K') (K:=K) hpN hp hb hS hH hI
      subst q2
      have hxe:x.ev A'=x.ev A:=X.ev_congr fun t ht=>hS.eq t (PC.xs_mem hx t ht)
      simp only [vops,vguard,vop,pop,List.map_cons,List.map_nil,fillV,hxe] at hv
      obtain ⟨⟨h1,h2,h3,_⟩,_,h4⟩:=hv
      rw [splice_all h1] at h4
      exact ⟨q1,by omega,fun b k1 k2=>q3 h1 k1 k2 hk h4⟩
    have gN:o.g=none→vop P o.op s A (fun r t=>obsOk t A o.obs∧K (putV A o.dst r) t)→Ran P o K A s:=fun e h=>by
      unfold Ran
      rw [e]; exact h
    split at h
    · rename_i z p' ho hp'
      rw [hp] at hp'; cases hp'
      split at h
      · rename_i hz
        have k0:=alc hz.1 hz.2 h
        refine vguard_iff.2 ⟨fun _=>?_,fun hg=>?_,?_⟩
        · rw [ho]; exact fun b hb=>(k0 b (hH.fresh hb) (fresh_box hH hb)).2
        · have:=(k0 s.sz (hH.fresh (Nat.le_refl _)) (fresh_box hH (Nat.le_refl _))).1
          rw [this] at hg; exact hg.elim
        · exact .inl (by rw [(k0 s.sz (hH.fresh (Nat.le_refl _)) (fresh_box hH (Nat.le_refl _))).1]; trivial)
      · cases h
    · rename_i z p' ho hp'
      rw [hp] at hp'; cases hp'
      split at h
      · rename_i hz
        have k0:=alc hz.1 hz.2 h
        refine gN (k0 s.sz (hH.fresh (Nat.le_refl _)) (fresh_box hH (Nat.le_refl _))).1 ?_
        rw [ho]; exact fun b hb hob=>(k0 b (hH.freshN hb).1 (hH.freshN hb).2).2
      · cases h
    · rename_i x p' ho hp'
      rw [hp] at hp'; cases hp'
      split at h
      · rename_i hz
        obtain ⟨k0,k1,k2⟩:=bxs hz.1 hz.2 h
        refine gN k0 ?_
        rw [ho]; exact ⟨k1,fun b hb=>k2 b (hH.fresh hb) (fresh_box hH hb)⟩
      · cases h
    · rename_i x p' ho hp'
      rw [hp] at hp'; cases hp'
      split at h
      · rename_i hz
        obtain ⟨k0,k1,k2⟩:=bxs hz.1 hz.2 h
        refine gN k0 ?_
        rw [ho]; exact ⟨k1,fun b hb hob=>k2 b (hH.freshN hb).1 (hH.freshN hb).2⟩
      · cases h
    · cases h
  · rename_i hN
    have dn:∀ {d:Nat},o.dst=some d→szOf c.S d=none:=fun hd=>by rw [hd] at hN; exact hN
    split at h
    · rename_i off x ho
      split at h
      · rename_i p N o0 g d ha hd hob
        split at h
        · rename_i hc
          simp only [Bool.and_eq_true] at hc
          simp only [Option.some.injEq,Prod.mk.injEq] at h
          obtain ⟨rfl,rfl,rfl⟩:=h
          refine alias_sound hS hH hI hd (dn hd) hob ha hc.1.1 (by simp only [PC.sp,hc.1.2,Bool.or_true,Bool.true_or]) hc.2 (o1:=o0 + off) (fun b hx=>?_) (by rw [ho]; rfl) hv hk
          rw [ho]; simp only [pop,hx,vfld]; exact ⟨trivial,trivial⟩
        · cases h
      · cases h
      · exact pl h
    · rename_i x ho
      split at h
      · rename_i p N o0 g d ha hd hob
        split at h
        · rename_i hc
          simp only [Bool.and_eq_true] at hc
          simp only [Option.some.injEq,Prod.mk.injEq] at h
          obtain ⟨rfl,rfl,rfl⟩:=h
          refine alias_sound hS hH hI hd (dn hd) hob ha hc.1.1 (by simp only [PC.sp,hc.1.2,Bool.or_true,Bool.true_or]) hc.2 (o1:=o0) (fun b hx=>?_) (by rw [ho]; rfl) hv hk
          rw [ho]; simp only [pop,hx,vnil]; exact ⟨trivial,trivial⟩
        · cases h
      · rename_i p N o0 g ha hd hob
        split at h
        · rename_i hc
          simp only [Bool.and_eq_true] at hc
          simp only [Option.some.injEq,Prod.mk.injEq] at h
          obtain ⟨rfl,rfl,rfl⟩:=h
          refine ran_of hS (PC.xs_mem hc.2) (fun w hw=>?_) (by simp) hv (fun hgo hw=>?_) (fun hgo hw=>?_)
          · simp only [List.mem_singleton] at hw; subst hw
            exact ⟨rfl,rfl,fun t ht=>by simp at ht⟩
          · simp only [List.map_cons,List.map_nil,VO.bare,vops,vguard,vop,pop,X.ev] at hw
            obtain ⟨h1,_,h2⟩:=hw
            obtain ⟨cs,hcs⟩:=fv_agg h1
            obtain ⟨_,b,k1,k2,k3,k4⟩:=addr_at hS hI ha (gLe_of hc.1 hgo) hcs
            rw [ho,hob,hd]
            show (pop s A (.nilck x)).1∧True∧K A s
            simp only [pop,k4,vnil]
            exact ⟨trivial,trivial,hk H A' s' A s hS hH hI h2⟩
          · rw [hd]
            exact hk H A' s' A s hS hH hI hw
        · cases h
      · cases h
      · exact pl h
    · rename_i n x ho
      split at h
      · rename_i p N off g d ha hd hob
        split at h
        · rename_i hc
          simp only [Bool.and_eq_true,Bool.not_eq_true'] at hc
          simp only [Option.some.injEq,Prod.mk.injEq] at h
          obtain ⟨rfl,rfl,rfl⟩:=h
          exact load_sound hS hH hI hsc ho hd hob ha hc.1.1.1 hc.1.1.2 hc.1.2 hc.2 hv hk
        · cases h
      · cases h
      · exact pl h
    · rename_i k x y ho
      split at h
      · rename_i p N off ha hg hd
        split at h
        · rename_i hob
          split at h
          · rename_i hy
            simp only [Option.some.injEq,Prod.mk.injEq] at h
            obtain ⟨rfl,rfl,rfl⟩:=h
            exact pstore_sound hS hH hI hsc ho hd hg ha hob hy hv hk
          · cases h
        · cases h
      · cases h
      · exact pl h
    · exact pl h
theorem ops_sound (hsc:szOf c.S c.scr=none):∀ {l ws:List VO} {H:Nat→Option (List V)} {s' s:St} {A' A:Nat→V} {E:List PE} {L:List PL},c.ops E L l=some ws→SimA c H A' A→Hid H s' s→PInv c E L A' A→vops P K' ws A' s'→(∀ H A' s' A s,SimA c H A' A→Hid H s' s→K' A' s'→K A s)→vops P K l A s
  | [],ws,H,s',s,A',A,E,L,h,hS,hH,hI,hv,hk=>by
    simp only [PC.ops,Option.some.injEq] at h; subst h
    exact hk H A' s' A s hS hH hv
  | o :: l,ws,H,s',s,A',A,E,L,h,hS,hH,hI,hv,hk=>by
    simp only [PC.ops] at h
    split at h
    · rename_i w1 E1 L1 h1
      simp only [Option.map_eq_some_iff] at h
      obtain ⟨w2,h2,rfl⟩:=h
      rw [vops_append] at hv
      exact op_sound h1 hsc hS hH hI hv fun H A' s' A s k1 k2 k3 k4=>ops_sound hsc h2 k1 k2 k3 k4 hk
    · cases h
theorem least {p:Nat→Prop} (h:∃ n,p n):∃ n,p n∧∀ m,p m→n≤m:=by
  obtain ⟨n,hn⟩:=h
  have:∀ k n,n≤k→p n→∃ n,p n∧∀ m,p m→n≤m:=by
    intro k
    induction k with
    | zero=>intro n hk hn; exact ⟨n,hn,fun m _=>by omega⟩
    | succ k ih =>
      intro n hk hn
      by_cases e:∃ m,m < n∧p m
      · obtain ⟨m,h1,h2⟩:=e; exact ih m (by omega) h2
      · exact ⟨n,hn,fun m hm=>Nat.le_of_not_lt fun h=>e ⟨m,h,hm⟩⟩
  exact this n n (Nat.le_refl _) hn
theorem code_sound (hsc:szOf c.S c.scr=none):∀ (v:VC) {v':VC},c.code v=some v'→∀ {H:Nat→Option (List V)} {A' A:Nat→V} {s' s:St} {Q' Q:VQ},SimA c H A' A→Hid H s' s→vwp P v' Q' A' s'→(∀ e H A' s' A s,SimA c H A' A→Hid H s' s→Q' e A' s'→Q e A s)→vwp P v Q A s:=by
  intro v
  induction v with
  | skip =>
    intro v' h H A' A s' s Q' Q hS hH hv hk
    simp only [PC.code,Option.some.injEq] at h; subst h
    exact hk .normal H A' s' A s hS hH hv
  | exit i =>
    intro v' h H A' A s' s Q' Q hS hH hv hk
    simp only [PC.code,Option.some.injEq] at h; subst h
    exact hk (.exit i) H A' s' A s hS hH hv
  | ret =>
    intro v' h H A' A s' s Q' Q hS hH hv hk
    simp only [PC.code,Option.some.injEq] at h; subst h
    exact hk .ret H A' s' A s hS hH hv
  | reg ops =>
    intro v' h H A' A s' s Q' Q hS hH hv hk
    simp only [PC.code,Option.map_eq_some_iff] at h
    obtain ⟨ws,hw,rfl⟩:=h
    exact ops_sound hsc hw hS hH ⟨(fun e he=>by cases he),(fun l hl=>by cases hl)⟩ hv fun H A' s' A s k1 k2 k3=>hk .normal H A' s' A s k1 k2 k3
  | seq a b iha ihb =>
    intro v' h H A' A s' s Q' Q hS hH hv hk
    simp only [PC.code] at h
    split at h
    · rename_i a' b' ha hb
      simp only [Option.some.injEq] at h; subst h
      refine iha ha hS hH hv fun e H A' s' A s k1 k2 k3=>?_
      cases e with
      | normal=>exact ihb hb k1 k2 k3 hk
      | exit i=>exact hk (.exit i) H A' s' A s k1 k2 k3
      | ret=>exact hk .ret H A' s' A s k1 k2 k3
    · cases h
  | cond x a b iha ihb =>
    intro v' h H A' A s' s Q' Q hS hH hv hk
    simp only [PC.code] at h
    split at h
    · rename_i hx
      split at h
      · rename_i a' b' ha hb
        simp only [Option.some.injEq] at h; subst h
        have hxe:x.ev A'=x.ev A:=X.ev_congr fun t ht=>hS.eq t (PC.xs_mem hx t ht)
        simp only [vwp,hxe] at hv ⊢
        split at hv
        · exact ⟨fun e=>iha ha hS hH (hv.1 e) hk,fun e=>ihb hb hS hH (hv.2 e) hk⟩
        · exact hv.elim
      · cases h
    · cases h
  | blk id a ih =>
    intro v' h H A' A s' s Q' Q hS hH hv hk
    simp only [PC.code,Option.map_eq_some_iff] at h
    obtain ⟨a',ha,rfl⟩:=h
    refine ih ha hS hH hv fun e H A' s' A s k1 k2 k3=>?_
    cases e with
    | normal=>exact hk .normal H A' s' A s k1 k2 k3
    | ret=>exact hk .ret H A' s' A s k1 k2 k3
    | exit i =>
      simp only [VQ.blk] at k3 ⊢
      split at k3
      · rename_i e; rw [if_pos e]; exact hk .normal H A' s' A s k1 k2 k3
      · rename_i e; rw [if_neg e]; exact hk (.exit i) H A' s' A s k1 k2 k3
  | loop a ih =>
    intro v' h H A' A s' s Q' Q hS hH hv hk
    simp only [PC.code,Option.map_eq_some_iff] at h
    obtain ⟨a',ha,rfl⟩:=h
    obtain ⟨I,μ,h0,hr⟩:=hv
    obtain ⟨R,hR⟩:∃ R:(Nat→V) × St→Nat→Prop,R=fun x n=>∃ H A' s',SimA c H A' x.1∧Hid H s' x.2∧I A' s'∧μ A' s'=n:=⟨_,rfl⟩
    have hex:∀ x,∃ n,(∃ n,R x n)→R x n∧∀ m,R x m→n≤m:=fun x=>by
      by_cases e:∃ n,R x n
      · obtain ⟨n,h1,h2⟩:=least e
        exact ⟨n,fun _=>⟨h1,h2⟩⟩
      · exact ⟨0,fun k=>absurd k e⟩
    obtain ⟨f,hf⟩:=Classical.axiomOfChoice hex
    refine ⟨fun A s=>∃ n,R (A,s) n,fun A s=>f (A,s),⟨μ A' s',by rw [hR]; exact ⟨H,A',s',hS,hH,h0,rfl⟩⟩,fun A s hI=>?_⟩
    obtain ⟨k1,k2⟩:=hf (A,s) hI
    have k1':=k1
    rw [hR] at k1'
    obtain ⟨H1,A1,s1,j1,j2,j3,j4⟩:=k1'
    refine ih ha j1 j2 (hr A1 s1 j3) fun e H2 A2 s2 A3 s3 q1 q2 q3=>?_
    cases e with
    | normal =>
      have q3:I A2 s2∧μ A2 s2 < μ A1 s1:=q3
      have hRn:R (A3,s3) (μ A2 s2):=by rw [hR]; exact ⟨H2,A2,s2,q1,q2,q3.1,rfl⟩
      refine ⟨⟨_,hRn⟩,?_⟩
      have:=(hf (A3,s3) ⟨_,hRn⟩).2 _ hRn
      simp only
      omega
    | exit id=>exact hk (.exit id) H2 A2 s2 A3 s3 q1 q2 q3
    | ret=>exact hk .ret H2 A2 s2 A3 s3 q1 q2 q3
theorem vpv_load {p N:Nat} {n:Option Nat} (hS:SimA c H A' A) (hH:Hid H s' s) (hp:szOf c.S p=some N) (h:(vpv (A' p) n).1):vload s n (A p)=vpv (A' p) n:=by
  rcases hS.live p N hp with e | ⟨b,cs,e1,e2,e3,e4⟩
  · rw [e] at h; exact h.elim
  · rw [e1,e3]
    exact vload_at (hH.hb e4)
theorem res_sound (hS:SimA c H A' A) (hH:Hid H s' s):∀ {l:List RV} {r:List RP},l.mapM c.res=some r→rpAll s' A' r→rvAll s A l∧(l.map fun r=>(rvVal s A r).2)=r.map fun r=>(rpVal s' A' r).2
  | [],r,h,_=>by simp at h; subst h; exact ⟨trivial,rfl⟩
  | x :: l,r,h,ha=>by
    simp only [List.mapM_cons,Option.pure_def,Option.bind_eq_bind,Option.bind_eq_some_iff,Option.some.injEq] at h
    obtain ⟨y,hy,r',hr',rfl⟩:=h
    obtain ⟨h1,h2⟩:=res_sound hS hH hr' ha.2
    have h0:=ha.1
    have:rvVal s A x=rpVal s' A' y:=by
      cases x with
      | tmp t =>
        simp only [PC.res] at hy
        split at hy
        · cases hy
        · rename_i ht
          simp only [Option.some.injEq] at hy; subst hy
          simp only [rvVal,rpVal,hS.eq t (by simpa using ht)]
      | cell t n =>
        simp only [PC.res] at hy
        split at hy
        · rename_i N hN
          simp only [Option.some.injEq] at hy; subst hy
          exact vpv_load hS hH hN h0
        · split at hy
          · cases hy
          · rename_i ht
            simp only [Option.some.injEq] at hy; subst hy
            have:=hS.eq t (by simpa using ht)
            simp only [rvVal,rpVal,this] at h0 ⊢
            exact vload_hide hH h0
    exact ⟨⟨by rw [this]; exact h0,h1⟩,by simp only [List.map_cons,this,h2]⟩
theorem vcalls_enterp {S:List (Nat × Nat)} {D:List Nat} {f:FuncId} {F:FP} (hf:cFunP P S D f=some F) {args:List V} {Q:V→St→Prop} {st:St} (hn:args.length≤F.n) (ha:(S.all fun p=>decide (args.length≤p.1) && decide (p.1 < F.n))=true)
    (h:st.Wf→(∀ d ∈ args,d.Ok)→vwp P F.body (finP F.res Q) (args0 args) st):VCalls P f args st Q:=by
  unfold cFunP at hf
  split at hf
  · rename_i F0 hF0
    split at hf
    · rename_i b r hb hr
      simp only [Option.some.injEq] at hf; subst hf
      have hSn:∀ {p N:Nat},szOf S p=some N→args.length≤p∧p < F0.n:=fun {p N} hp=>by
        have:∀ {S:List (Nat × Nat)},(S.all fun p=>decide (args.length≤p.1) && decide (p.1 < F0.n))=true→szOf S p=some N→args.length≤p∧p < F0.n:=by
          intro S
          induction S with
          | nil=>intro _ h; cases h
          | cons x S ih =>
            obtain ⟨a,n⟩:=x
            intro hA hz
            simp only [List.all_cons,Bool.and_eq_true,decide_eq_true_eq] at hA
            simp only [szOf] at hz
            split at hz
            · rename_i e; subst e; exact hA.1
            · exact ih hA.2 hz
        exact this ha hp
      have hscr:szOf S F0.n=none:=by
        cases hz:szOf S F0.n with
        | none=>rfl
        | some N=>have:=(hSn hz).2; omega
      refine vcalls_enter hF0 hn fun hwf hok=>?_
      have hSim:SimA ⟨S,D,F0.n⟩ (fun _=>none) (args0 args) (args0 args) :=
        ⟨fun _ _=>rfl,fun p N hp=>.inl (by simp only [args0]; rw [List.getD_eq_getElem?_getD,List.getElem?_eq_none (hSn hp).1]; rfl),fun p N q M b hp hq h1=>absurd (by simp only [args0]; rw [List.getD_eq_getElem?_getD,List.getElem?_eq_none (hSn hp).1]; rfl) h1⟩
      refine code_sound (c:=⟨S,D,F0.n⟩) hscr F0.body hb hSim (Hid.none hwf.lt) (h hwf hok) fun e H A' s' A s hS hH hq=>?_
      have fin:vretp r Q A' s'→vret F0.res Q A s:=fun ⟨h1,r',st2,h2,h3,h4⟩=>by
        obtain ⟨k1,k2⟩:=res_sound hS hH hr h1
        refine ⟨k1,r',st2,?_,⟨fun b cs hb=>⟨hH.get (h3.box b cs hb).1,(h3.box b cs hb).2⟩,fun g m hg=>⟨by rw [hH.own]; exact (h3.own g m hg).1,(h3.own g m hg).2⟩,Nat.le_trans h3.sz hH.sz⟩,h4⟩
        have:resV s A F0.res=respV s' A' r:=by
          have hl:=(mapM_get hr).1
          match hF:F0.res,r,hl with
          | [],[],_=>rfl
          | [x],[y],_ =>
            rw [hF] at k2
            simp only [List.map_cons,List.map_nil,List.cons.injEq,and_true] at k2
            exact k2
          | x :: x2 :: l,y :: y2 :: m,_ =>
            rw [hF] at k2
            show V.tup _=V.tup _
            rw [k2]
        rw [this]; exact h2
      cases e with
      | normal=>exact fin hq
      | ret=>exact fin hq
      | exit i=>exact hq.elim
    · cases hf
  · cases hf
theorem at_finp_n {k:List RP} {Q:V→St→Prop} {st:St}:At P (.fin (finP k Q)) .normal A st=vretp k Q A st:=_root_.id rfl
theorem at_finp_r {k:List RP} {Q:V→St→Prop} {st:St}:At P (.fin (finP k Q)) .ret A st=vretp k Q A st:=_root_.id rfl
theorem resp_1 {st:St} {r:RP}:respV st A [r]=(rpVal st A r).2:=_root_.id rfl
theorem resp_2 {st:St} {r1 r2:RP} {l:List RP}:respV st A (r1 :: r2 :: l)=.tup ((r1 :: r2 :: l).map fun r=>(rpVal st A r).2):=_root_.id rfl
theorem resp_0 {st:St}:respV st A []=.tup []:=_root_.id rfl
end
end
section
open Go Go.RowKit
def VOp.mapX (f:X→X):VOp→VOp
  | .mv x=>.mv (f x)
  | .pick c a b=>.pick (f c) (f a) (f b)
  | .bin op x y=>.bin op (f x) (f y)
  | .un op x=>.un op (f x)
  | .binb n x y=>.binb n (f x) (f y)
  | .eqs n l x y=>.eqs n l (f x) (f y)
  | .isnil n x=>.isnil n (f x)
  | .pnil n x=>.pnil n (f x)
  | .b2s x=>.b2s (f x)
  | .s2b x=>.s2b (f x)
  | .b2sB x=>.b2sB (f x)
  | .s2a n k x=>.s2a n k (f x)
  | .slcA n k x lo hi=>.slcA n k (f x) (lo.map f) (hi.map f)
  | .sidx x i=>.sidx (f x) (f i)
  | .aidx n x i=>.aidx n (f x) (f i)
  | .conv k x=>.conv k (f x)
  | .fld o x=>.fld o (f x)
  | .ix k x i=>.ix k (f x) (f i)
  | .ixa n k x i=>.ixa n k (f x) (f i)
  | .load n x=>.load n (f x)
  | .nilck x=>.nilck (f x)
  | .ext x i=>.ext (f x) i
  | .len x=>.len (f x)
  | .slen x=>.slen (f x)
  | .mn x y=>.mn (f x) (f y)
  | .mx x y=>.mx (f x) (f y)
  | .bld z ps=>.bld z (ps.map fun p=>(p.1,p.2.1,f p.2.2))
  | .bsl k xs=>.bsl k (xs.map f)
  | .slc k x lo hi=>.slc k (f x) (lo.map f) (hi.map f)
  | .sslc x lo hi=>.sslc (f x) (lo.map f) (hi.map f)
  | .bslo k xs=>.bslo k (xs.map f)
  | .box x=>.box (f x)
  | .alc z=>.alc z
  | .alcX z=>.alcX z
  | .boxX x=>.boxX (f x)
  | .mks k b z x=>.mks k b z (f x)
  | .mko k b z x=>.mko k b z (f x)
  | .store n x y=>.store n (f x) (f y)
  | .app k b x y=>.app k b (f x) (f y)
  | .appx k b z x y=>.appx k b z (f x) (f y)
  | .call g xs=>.call g (xs.map f)
  | .mlk a l z ok x k=>.mlk a l z ok (f x) (f k)
  | .mlen x=>.mlen (f x)
  | .mnil n x=>.mnil n (f x)
  | .mkm a l=>.mkm a l
  | .mup a l x k v=>.mup a l (f x) (f k) (f v)
  | .mdel a l x k=>.mdel a l (f x) (f k)
  | .rng x=>.rng (f x)
  | .nxt x=>.nxt (f x)
  | .ent x=>.ent (f x)
  | .mfn g a b=>.mfn g (a.map f) (b.map f)
  | .slc3 k x lo hi q=>.slc3 k (f x) (lo.map f) (f hi) (f q)
  | .ment a l z x k=>.ment a l z (f x) (f k)
  | .est x s v=>.est (f x) (f s) (f v)
  | .clr k z x=>.clr k z (f x)
  | .calv x xs=>.calv (f x) (xs.map f)
  | .aidxn n k x i=>.aidxn n k (f x) (f i)
  | .fv o n x=>.fv o n (f x)
  | .mki t x=>.mki t (f x)
  | .inv n x xs=>.inv n (f x) (xs.map f)
  | .cpy k x y=>.cpy k (f x) (f y)
def envX (env:List (Nat × X)) (t:Nat):Option X:=match env with
  | []=>none
  | (d,x) :: r=>if d=t then some x else envX r t
def X.sub (env:List (Nat × X)):X→X
  | .t a=>match envX env a with
    | some x=>x
    | none=>.t a
  | .c v=>.c v
def X.isT (a:Nat):X→Bool
  | .t b=>b == a
  | .c _=>false
def envK (env:List (Nat × X)):Option Nat→List (Nat × X)
  | none=>env
  | some d=>env.filter fun e=>e.1 != d && !e.2.isT d
def okR (C:List Nat) (l:List Nat):Bool:=l.all fun t=>!C.contains t
def subG (env:List (Nat × X)):Gd→Gd
  | none=>none
  | some (s,w)=>match envX env s with
    | some (.t t)=>some (t,w)
    | _=>some (s,w)
def subObs (C:List Nat) (env:List (Nat × X)):List (Option Nat × X × Nat)→Option (List (Option Nat × X × Nat))
  | []=>some []
  | (n,x,d) :: r=>if okR C ((x.sub env).reads ++ [d]) then (subObs C env r).map ((n,x.sub env,d) :: ·) else none
def isCopy (C:List Nat) (o:VO):Option (Nat × X) :=
  match o.dst,o.op,o.g,o.obs with
  | some d,.mv x,none,[]=>if C.contains d then some (d,x) else none
  | _,_,_,_=>none
def cpOps (C:List Nat):List (Nat × X)→List VO→Option (List VO)
  | _,[]=>some []
  | env,o :: r=>match isCopy C o with
    | some (d,x)=>if okR C (x.sub env).reads then cpOps C ((d,x.sub env) :: envK env (some d)) r else none
    | none=>match subObs C env o.obs with
      | some q=>if okR C (gd (subG env o.g) ++ (o.op.mapX (X.sub env)).reads ++ o.dst.toList) then (cpOps C (envK env o.dst) r).map (⟨o.dst,o.op.mapX (X.sub env),subG env o.g,q⟩ :: ·) else none
      | none=>none
def cpCode (C:List Nat):VC→Option VC
  | .skip=>some .skip
  | .exit i=>some (.exit i)
  | .ret=>some .ret
  | .reg ops=>(cpOps C [] ops).map .reg
  | .seq a b=>match cpCode C a,cpCode C b with
    | some a,some b=>some (.seq a b)
    | _,_=>none
  | .cond x a b=>if okR C x.reads then match cpCode C a,cpCode C b with
    | some a,some b=>some (.cond x a b)
    | _,_=>none
    else none
  | .blk i a=>(cpCode C a).map (.blk i)
  | .loop a=>(cpCode C a).map .loop
def RP.slot:RP→Nat
  | .tmp t=>t
  | .cell t _=>t
  | .pv p _=>p
def cFunQ (P:Program) (S:List (Nat × Nat)) (D C:List Nat) (f:FuncId):Option FP :=
  match cFunP P S D f with
  | some F=>if okR C (F.res.map RP.slot) then (cpCode C F.body).map fun b=>⟨F.n,b,F.res⟩ else none
  | none=>none
section
variable {P:Program} {C:List Nat} {A' A:Nat→V} {s:St} {env:List (Nat × X)} {K' K:(Nat→V)→St→Prop}
theorem okR_mem {l:List Nat} (h:okR C l=true):∀ t ∈ l,C.contains t=false:=fun t ht=>by
  have:=List.all_eq_true.1 h t ht
  simpa using this
structure CpI (C:List Nat) (env:List (Nat × X)) (A' A:Nat→V):Prop where
  eq:∀ t,C.contains t=false→A' t=A t
  env:∀ e ∈ env,okR C e.2.reads=true∧A e.1=e.2.ev A
theorem envX_mem {t:Nat} {x:X}:∀ {env:List (Nat × X)},envX env t=some x→(t,x) ∈ env
  | [],h=>by cases h
  | (d,y) :: r,h=>by
    simp only [envX] at h
    split at h
    · rename_i e; simp only [Option.some.injEq] at h; subst e h; simp
    · exact List.mem_cons_of_mem _ (envX_mem h)
theorem CpI.x (h:CpI C env A' A) {x:X} (hx:okR C x.reads=true):x.ev A'=x.ev A:=X.ev_congr fun t ht=>h.eq t (okR_mem hx t ht)
theorem CpI.sub (h:CpI C env A' A) {x:X} (hx:okR C (x.sub env).reads=true):(x.sub env).ev A'=x.ev A:=by
  rw [h.x hx]
  cases x with
  | c v=>rfl
  | t t =>
    simp only [X.sub] at hx ⊢
    split
    · rename_i y hy
      exact ((h.env _ (envX_mem hy)).2).symm
    · rfl
theorem CpI.put (h:CpI C env A' A) {d:Option Nat} (hd:okR C d.toList=true) {r:V}:CpI C (envK env d) (putV A' d r) (putV A d r):=by
  cases d with
  | none=>exact h
  | some d =>
    have hd':=okR_mem hd d (by simp)
    refine ⟨fun t ht=>?_,fun e he=>?_⟩
    · simp only [putV]; split
      · rfl
      · exact h.eq t ht
    · simp only [envK,List.mem_filter,Bool.and_eq_true,bne_iff_ne,ne_eq,Bool.not_eq_true'] at he
      obtain ⟨h1,h2,h3⟩:=he
      obtain ⟨k1,k2⟩:=h.env e h1
      refine ⟨k1,?_⟩
      simp only [putV,if_neg h2]
      rw [k2]
      refine X.ev_congr fun t ht=>?_
      have:t ≠ d:=fun e'=>by
        subst e'
        cases hx:e.2 with
        | c v=>rw [hx] at ht; cases ht
        | t q=>rw [hx] at ht h3; simp [X.reads] at ht; subst ht; simp [X.isT] at h3
      rw [if_neg this]
theorem CpI.copy (h:CpI C env A' A) {d:Nat} (hd:C.contains d=true) {x:X} (hx:okR C x.reads=true) {r:V} (hr:r=x.ev A):CpI C ((d,x) :: envK env (some d)) A' (putV A (some d) r):=by
  have xn:∀ {y:X},okR C y.reads=true→y.ev (putV A (some d) r)=y.ev A:=fun {y} hy=>X.ev_congr fun t ht=>by
    have:t ≠ d:=fun e=>by subst e; have:=okR_mem hy _ ht; rw [hd] at this; cases this
    simp only [putV,if_neg this]
  refine ⟨fun t ht=>?_,fun e he=>?_⟩
  · simp only [putV]
    rw [if_neg (fun e=>by subst e; rw [hd] at ht; cases ht)]; exact h.eq t ht
  · rcases List.mem_cons.1 he with rfl | he
    · exact ⟨hx,by rw [xn hx]; simp only [putV]; exact hr⟩
    · simp only [envK,List.mem_filter,Bool.and_eq_true,bne_iff_ne,ne_eq,Bool.not_eq_true'] at he
      obtain ⟨h1,h2,h3⟩:=he
      obtain ⟨k1,k2⟩:=h.env e h1
      refine ⟨k1,?_⟩
      rw [xn k1]
      simp only [putV,if_neg h2]
      exact k2
theorem vop_map {f:X→X} {o:VOp} {K:V→St→Prop} (h:∀ x,okR C (f x).reads=true→(f x).ev A'=x.ev A) (ho:okR C (o.mapX f).reads=true):vop P (o.mapX f) s A' K=vop P o s A K:=by
  have ho':=okR_mem ho
  have e1:∀ {x:X},(∀ t ∈ (f x).reads,t ∈ (o.mapX f).reads)→(f x).ev A'=x.ev A:=fun {x} hx=>h x (List.all_eq_true.2 fun t ht=>by rw [ho' t (hx t ht)]; rfl)
  have em:∀ {xs:List X},(∀ x ∈ xs,∀ t ∈ (f x).reads,t ∈ (o.mapX f).reads)→((xs.map f).map fun x=>x.ev A')=xs.map fun x=>x.ev A:=fun {xs} hx=>by
    rw [List.map_map]; exact List.map_congr_left fun x hm=>e1 (hx x hm)
  have es:∀ {xs:List X},(∀ x ∈ xs,∀ t ∈ (f x).reads,t ∈ (o.mapX f).reads)→((xs.map f).map fun x=>strip (x.ev A'))=xs.map fun x=>strip (x.ev A):=fun {xs} hx=>by
    rw [List.map_map]; exact List.map_congr_left fun x hm=>by show strip ((f x).ev A')=_; rw [e1 (hx x hm)]
  have eo:∀ {x:Option X},(∀ y,x=some y→∀ t ∈ (f y).reads,t ∈ (o.mapX f).reads)→((x.map f).map fun x=>x.ev A')=x.map fun x=>x.ev A:=fun {x} hx=>by
    cases x with
    | none=>rfl
    | some y=>simp only [Option.map_some,e1 (hx y rfl)]
  cases o
  case alc z=>rfl
  case alcX z=>rfl
  case mkm a l=>rfl
  case bld z ps =>
    have:((ps.map fun p=>(p.1,p.2.1,f p.2.2)).map fun p=>(p.1,p.2.1,p.2.2.ev A'))=ps.map fun p=>(p.1,p.2.1,p.2.2.ev A):=by
      rw [List.map_map]
      refine List.map_congr_left fun p hm=>?_
      show (p.1,p.2.1,(f p.2.2).ev A')=_
      rw [e1 (fun t ht=>by simp only [VOp.mapX,VOp.reads,List.mem_flatMap,List.mem_map]; exact ⟨_,⟨p,hm,rfl⟩,ht⟩)]
    simp only [VOp.mapX,vop,pop,this]
  case call g xs=>simp only [VOp.mapX,vop,em (xs:=xs) (fun x hm t ht=>by simp only [VOp.mapX,VOp.reads,List.mem_flatMap,List.mem_map]; exact ⟨_,⟨x,hm,rfl⟩,ht⟩)]
  case bsl k xs=>simp only [VOp.mapX,vop,pop,es (xs:=xs) (fun x hm t ht=>by simp only [VOp.mapX,VOp.reads,List.mem_flatMap,List.mem_map]; exact ⟨_,⟨x,hm,rfl⟩,ht⟩)]
  case bslo k xs =>
    simp only [VOp.mapX,vop,es (xs:=xs) (fun x hm t ht=>by simp only [VOp.mapX,VOp.reads,List.mem_flatMap,List.mem_map]; exact ⟨_,⟨x,hm,rfl⟩,ht⟩),List.length_map]
  case calv x xs=>simp only [VOp.mapX,vop,e1 (x:=x) (fun t ht=>by simp only [VOp.mapX,VOp.reads,List.mem_append]; exact .inl ht),em (xs:=xs) (fun x hm t ht=>by simp only [VOp.mapX,VOp.reads,List.mem_append,List.mem_flatMap,List.mem_map]; exact .inr ⟨_,⟨x,hm,rfl⟩,ht⟩)]
  case inv n x xs=>simp only [VOp.mapX,vop,e1 (x:=x) (fun t ht=>by simp only [VOp.mapX,VOp.reads,List.mem_append]; exact .inl ht),em (xs:=xs) (fun x hm t ht=>by simp only [VOp.mapX,VOp.reads,List.mem_append,List.mem_flatMap,List.mem_map]; exact .inr ⟨_,⟨x,hm,rfl⟩,ht⟩)]
  case mfn g a b=>simp only [VOp.mapX,vop,pop,em (xs:=a) (fun x hm t ht=>by simp only [VOp.mapX,VOp.reads,List.mem_append,List.mem_flatMap,List.mem_map]; exact .inl ⟨_,⟨x,hm,rfl⟩,ht⟩),em (xs:=b) (fun x hm t ht=>by simp only [VOp.mapX,VOp.reads,List.mem_append,List.mem_flatMap,List.mem_map]; exact .inr ⟨_,⟨x,hm,rfl⟩,ht⟩)]
  case slc k x lo hi=>simp only [VOp.mapX,vop,pop,e1 (x:=x) (fun t ht=>by simp [VOp.mapX,VOp.reads,ht]),eo (x:=lo) (fun y e t ht=>by subst e; simp [VOp.mapX,VOp.reads,oreads,ht]),eo (x:=hi) (fun y e t ht=>by subst e; simp [VOp.mapX,VOp.reads,oreads,ht])]
  case slcA n k x lo hi=>simp only [VOp.mapX,vop,pop,e1 (x:=x) (fun t ht=>by simp [VOp.mapX,VOp.reads,ht]),eo (x:=lo) (fun y e t ht=>by subst e; simp [VOp.mapX,VOp.reads,oreads,ht]),eo (x:=hi) (fun y e t ht=>by subst e; simp [VOp.mapX,VOp.reads,oreads,ht])]
  case sslc x lo hi=>simp only [VOp.mapX,vop,pop,e1 (x:=x) (fun t ht=>by simp [VOp.mapX,VOp.reads,ht]),eo (x:=lo) (fun y e t ht=>by subst e; simp [VOp.mapX,VOp.reads,oreads,ht]),eo (x:=hi) (fun y e t ht=>by subst e; simp [VOp.mapX,VOp.reads,oreads,ht])]
  case slc3 k x lo hi mx=>simp only [VOp.mapX,vop,pop,e1 (x:=x) (fun t ht=>by simp [VOp.mapX,VOp.reads,ht]),eo (x:=lo) (fun y e t ht=>by subst e; simp [VOp.mapX,VOp.reads,oreads,ht]),e1 (x:=hi) (fun t ht=>by simp [VOp.mapX,VOp.reads,ht]),e1 (x:=mx) (fun t ht=>by simp [VOp.mapX,VOp.reads,ht])]
  case pick x y z=>simp only [VOp.mapX,vop,pop,e1 (x:=x) (fun t ht=>by simp [VOp.mapX,VOp.reads,ht]),e1 (x:=y) (fun t ht=>by simp [VOp.mapX,VOp.reads,ht]),e1 (x:=z) (fun t ht=>by simp [VOp.mapX,VOp.reads,ht])]
  case mup a l x k v=>simp only [VOp.mapX,vop,e1 (x:=x) (fun t ht=>by simp [VOp.mapX,VOp.reads,ht]),e1 (x:=k) (fun t ht=>by simp [VOp.mapX,VOp.reads,ht]),e1 (x:=v) (fun t ht=>by simp [VOp.mapX,VOp.reads,ht])]
  case est x k v=>simp only [VOp.mapX,vop,e1 (x:=x) (fun t ht=>by simp [VOp.mapX,VOp.reads,ht]),e1 (x:=k) (fun t ht=>by simp [VOp.mapX,VOp.reads,ht]),e1 (x:=v) (fun t ht=>by simp [VOp.mapX,VOp.reads,ht])]
  case bin op x y=>simp only [VOp.mapX,vop,pop,e1 (x:=x) (fun t ht=>by simp [VOp.mapX,VOp.reads,ht]),e1 (x:=y) (fun t ht=>by simp [VOp.mapX,VOp.reads,ht])]
  case binb op x y=>simp only [VOp.mapX,vop,pop,e1 (x:=x) (fun t ht=>by simp [VOp.mapX,VOp.reads,ht]),e1 (x:=y) (fun t ht=>by simp [VOp.mapX,VOp.reads,ht])]
  case eqs n l x y=>simp only [VOp.mapX,vop,pop,e1 (x:=x) (fun t ht=>by simp [VOp.mapX,VOp.reads,ht]),e1 (x:=y) (fun t ht=>by simp [VOp.mapX,VOp.reads,ht])]
  case sidx x y=>simp only [VOp.mapX,vop,pop,e1 (x:=x) (fun t ht=>by simp [VOp.mapX,VOp.reads,ht]),e1 (x:=y) (fun t ht=>by simp [VOp.mapX,VOp.reads,ht])]
  case aidx n x y=>simp only [VOp.mapX,vop,pop,e1 (x:=x) (fun t ht=>by simp [VOp.mapX,VOp.reads,ht]),e1 (x:=y) (fun t ht=>by simp [VOp.mapX,VOp.reads,ht])]
  case aidxn n k x y=>simp only [VOp.mapX,vop,pop,e1 (x:=x) (fun t ht=>by simp [VOp.mapX,VOp.reads,ht]),e1 (x:=y) (fun t ht=>by simp [VOp.mapX,VOp.reads,ht])]
  case ix k x y=>simp only [VOp.mapX,vop,pop,e1 (x:=x) (fun t ht=>by simp [VOp.mapX,VOp.reads,ht]),e1 (x:=y) (fun t ht=>by simp [VOp.mapX,VOp.reads,ht])]
  case ixa n k x y=>simp only [VOp.mapX,vop,pop,e1 (x:=x) (fun t ht=>by simp [VOp.mapX,VOp.reads,ht]),e1 (x:=y) (fun t ht=>by simp [VOp.mapX,VOp.reads,ht])]
  case mn x y=>simp only [VOp.mapX,vop,pop,e1 (x:=x) (fun t ht=>by simp [VOp.mapX,VOp.reads,ht]),e1 (x:=y) (fun t ht=>by simp [VOp.mapX,VOp.reads,ht])]
  case mx x y=>simp only [VOp.mapX,vop,pop,e1 (x:=x) (fun t ht=>by simp [VOp.mapX,VOp.reads,ht]),e1 (x:=y) (fun t ht=>by simp [VOp.mapX,VOp.reads,ht])]
  case store n x y=>simp only [VOp.mapX,vop,e1 (x:=x) (fun t ht=>by simp [VOp.mapX,VOp.reads,ht]),e1 (x:=y) (fun t ht=>by simp [VOp.mapX,VOp.reads,ht])]
  case app k b x y=>simp only [VOp.mapX,vop,e1 (x:=x) (fun t ht=>by simp [VOp.mapX,VOp.reads,ht]),e1 (x:=y) (fun t ht=>by simp [VOp.mapX,VOp.reads,ht])]
  case appx k b z x y=>simp only [VOp.mapX,vop,e1 (x:=x) (fun t ht=>by simp [VOp.mapX,VOp.reads,ht]),e1 (x:=y) (fun t ht=>by simp [VOp.mapX,VOp.reads,ht])]
  case mlk a l z ok x y=>simp only [VOp.mapX,vop,pop,e1 (x:=x) (fun t ht=>by simp [VOp.mapX,VOp.reads,ht]),e1 (x:=y) (fun t ht=>by simp [VOp.mapX,VOp.reads,ht])]
  case mdel a l x y=>simp only [VOp.mapX,vop,e1 (x:=x) (fun t ht=>by simp [VOp.mapX,VOp.reads,ht]),e1 (x:=y) (fun t ht=>by simp [VOp.mapX,VOp.reads,ht])]
  case ment a l z x y=>simp only [VOp.mapX,vop,e1 (x:=x) (fun t ht=>by simp [VOp.mapX,VOp.reads,ht]),e1 (x:=y) (fun t ht=>by simp [VOp.mapX,VOp.reads,ht])]
  case cpy k x y=>simp only [VOp.mapX,vop,e1 (x:=x) (fun t ht=>by simp [VOp.mapX,VOp.reads,ht]),e1 (x:=y) (fun t ht=>by simp [VOp.mapX,VOp.reads,ht])]
  all_goals
    rename_i x
    first
      | simp only [VOp.mapX,vop,pop,e1 (x:=x) (fun t ht=>by simpa [VOp.mapX,VOp.reads] using ht)]
      | (rename_i y; simp only [VOp.mapX,vop,pop,e1 (x:=y) (fun t ht=>by simpa [VOp.mapX,VOp.reads] using ht)])
theorem sub_obs (hC:CpI C env A' A):∀ {l q:List (Option Nat × X × Nat)},subObs C env l=some q→obsOk s A' q→obsOk s A l
  | [],q,_,_=>trivial
  | (n,x,d) :: r,q,h,ho=>by
    simp only [subObs] at h
    split at h
    · rename_i hx
      simp only [Option.map_eq_some_iff] at h
      obtain ⟨q',hq,rfl⟩:=h
      have hm:=okR_mem hx
      refine ⟨?_,sub_obs hC hq ho.2⟩
      have h1:=ho.1
      rw [hC.sub (List.all_eq_true.2 fun t ht=>by rw [hm t (by simp [ht])]; rfl),hC.eq d (hm d (by simp))] at h1
      exact h1
    · cases h
theorem sub_guard (hC:CpI C env A' A) {g:Gd} (hg:okR C (gd (subG env g))=true) {X Y:Prop}:vguard A' (subG env g) X Y=vguard A g X Y:=by
  cases g with
  | none=>rfl
  | some sw =>
    obtain ⟨t,w⟩:=sw
    have key:∀ {q:Nat},subG env (some (t,w))=some (q,w)→A q=A t→A' q=A t:=fun {q} h1 h2=>by
      rw [h1] at hg
      rw [hC.eq q (okR_mem hg q (by simp [gd])),h2]
    cases hx:envX env t with
    | some x=>cases x with
      | t q =>
        have e:subG env (some (t,w))=some (q,w):=by simp only [subG,hx]
        have:=key e ((hC.env _ (envX_mem hx)).2).symm
        rw [e]; simp only [vguard,this]
      | c v =>
        have e:subG env (some (t,w))=some (t,w):=by simp only [subG,hx]
        have:=key e rfl
        rw [e]; simp only [vguard,this]
    | none =>
      have e:subG env (some (t,w))=some (t,w):=by simp only [subG,hx]
      have:=key e rfl
      rw [e]; simp only [vguard,this]
theorem cpOps_sound:∀ {l ws:List VO} {env:List (Nat × X)} {A' A:Nat→V} {s:St},cpOps C env l=some ws→CpI C env A' A→vops P K' ws A' s→(∀ A' A s,(∀ t,C.contains t=false→A' t=A t)→K' A' s→K A s)→vops P K l A s
  | [],ws,env,A',A,s,h,hC,hv,hk=>by
    simp only [cpOps,Option.some.injEq] at h; subst h
    exact hk A' A s hC.eq hv
  | o :: l,ws,env,A',A,s,h,hC,hv,hk=>by
    simp only [cpOps] at h
    split at h
    · rename_i d x hc
      split at h
      · rename_i hx
        obtain ⟨dst,op,g,obs⟩:=o
        simp only [isCopy] at hc
        split at hc
        · rename_i d' x'
          split at hc
          · rename_i hd
            simp only [Option.some.injEq,Prod.mk.injEq] at hc
            obtain ⟨rfl,rfl⟩:=hc
            have:x'.ev A=(x'.sub env).ev A:=by rw [← hC.sub hx,hC.x hx]
            refine ⟨trivial,trivial,cpOps_sound h (hC.copy hd hx this) hv hk⟩
          · cases hc
        · cases hc
      · cases h
    · split at h
      · rename_i q hq
        split at h
        · rename_i hr
          simp only [Option.map_eq_some_iff] at h
          obtain ⟨ws',hw,rfl⟩:=h
          have hm:=okR_mem hr
          have ok:∀ {l:List Nat},(∀ t ∈ l,t ∈ gd (subG env o.g) ++ (o.op.mapX (X.sub env)).reads ++ o.dst.toList)→okR C l=true:=fun hl=>List.all_eq_true.2 fun t ht=>by rw [hm t (hl t ht)]; rfl
          have hd:okR C o.dst.toList=true:=ok fun t ht=>by simp only [List.mem_append]; exact .inr ht
          simp only [vops] at hv
          rw [sub_guard hC (ok fun t ht=>by simp only [List.mem_append]; exact .inl (.inl ht)),vop_map (A:=A) (fun x hx=>hC.sub hx) (ok fun t ht=>by simp only [List.mem_append]; exact .inl (.inr ht))] at hv
          rw [vguard_iff] at hv
          simp only [vops]
          rw [vguard_iff]
          exact ⟨fun e=>vop_mono (hv.1 e) fun r t ⟨k1,k2⟩=>⟨sub_obs hC hq k1,cpOps_sound hw (hC.put hd) k2 hk⟩,fun e=>cpOps_sound hw (hC.put hd) (hv.2.1 e) hk,hv.2.2⟩
        · cases h
      · cases h
theorem cpCode_sound:∀ (v:VC) {v':VC},cpCode C v=some v'→∀ {A' A:Nat→V} {s:St} {Q' Q:VQ},(∀ t,C.contains t=false→A' t=A t)→vwp P v' Q' A' s→(∀ e A' A s,(∀ t,C.contains t=false→A' t=A t)→Q' e A' s→Q e A s)→vwp P v Q A s:=by
  intro v
  induction v with
  | skip =>
    intro v' h A' A s Q' Q hS hv hk
    simp only [cpCode,Option.some.injEq] at h; subst h
    exact hk .normal A' A s hS hv
  | exit i =>
    intro v' h A' A s Q' Q hS hv hk
    simp only [cpCode,Option.some.injEq] at h; subst h
    exact hk (.exit i) A' A s hS hv
  | ret =>
    intro v' h A' A s Q' Q hS hv hk
    simp only [cpCode,Option.some.injEq] at h; subst h
    exact hk .ret A' A s hS hv
  | reg ops =>
    intro v' h A' A s Q' Q hS hv hk
    simp only [cpCode,Option.map_eq_some_iff] at h
    obtain ⟨ws,hw,rfl⟩:=h
    exact cpOps_sound hw ⟨hS,fun e he=>by cases he⟩ hv fun A' A s k1 k2=>hk .normal A' A s k1 k2
  | seq a b iha ihb =>
    intro v' h A' A s Q' Q hS hv hk
    simp only [cpCode] at h
    split at h
    · rename_i a' b' ha hb
      simp only [Option.some.injEq] at h; subst h
      refine iha ha hS hv fun e A' A s k1 k3=>?_
      cases e with
      | normal=>exact ihb hb k1 k3 hk
      | exit i=>exact hk (.exit i) A' A s k1 k3
      | ret=>exact hk .ret A' A s k1 k3
    · cases h
  | cond x a b iha ihb =>
    intro v' h A' A s Q' Q hS hv hk
    simp only [cpCode] at h
    split at h
    · rename_i hx
      split at h
      · rename_i a' b' ha hb
        simp only [Option.some.injEq] at h; subst h
        have hxe:x.ev A'=x.ev A:=X.ev_congr fun t ht=>hS t (okR_mem hx t ht)
        simp only [vwp,hxe] at hv ⊢
        split at hv
        · exact ⟨fun e=>iha ha hS (hv.1 e) hk,fun e=>ihb hb hS (hv.2 e) hk⟩
        · exact hv.elim
      · cases h
    · cases h
  | blk id a ih =>
    intro v' h A' A s Q' Q hS hv hk
    simp only [cpCode,Option.map_eq_some_iff] at h
    obtain ⟨a',ha,rfl⟩:=h
    refine ih ha hS hv fun e A' A s k1 k3=>?_
    cases e with
    | normal=>exact hk .normal A' A s k1 k3
    | ret=>exact hk .ret A' A s k1 k3
    | exit i =>
      simp only [VQ.blk] at k3 ⊢
      split at k3
      · rename_i e; rw [if_pos e]; exact hk .normal A' A s k1 k3
      · rename_i e; rw [if_neg e]; exact hk (.exit i) A' A s k1 k3
  | loop a ih =>
    intro v' h A' A s Q' Q hS hv hk
    simp only [cpCode,Option.map_eq_some_iff] at h
    obtain ⟨a',ha,rfl⟩:=h
    obtain ⟨I,μ,h0,hr⟩:=hv
    obtain ⟨R,hR⟩:∃ R:(Nat→V) × St→Nat→Prop,R=fun x n=>∃ A',(∀ t,C.contains t=false→A' t=x.1 t)∧I A' x.2∧μ A' x.2=n:=⟨_,rfl⟩
    have hex:∀ x,∃ n,(∃ n,R x n)→R x n∧∀ m,R x m→n≤m:=fun x=>by
      by_cases e:∃ n,R x n
      · obtain ⟨n,h1,h2⟩:=least e
        exact ⟨n,fun _=>⟨h1,h2⟩⟩
      · exact ⟨0,fun k=>absurd k e⟩
    obtain ⟨f,hf⟩:=Classical.axiomOfChoice hex
    refine ⟨fun A s=>∃ n,R (A,s) n,fun A s=>f (A,s),⟨μ A' s,by rw [hR]; exact ⟨A',hS,h0,rfl⟩⟩,fun A s hI=>?_⟩
    obtain ⟨k1,k2⟩:=hf (A,s) hI
    have k1':=k1
    rw [hR] at k1'
    obtain ⟨A1,j1,j3,j4⟩:=k1'
    refine ih ha j1 (hr A1 s j3) fun e A2 A3 s3 q1 q3=>?_
    cases e with
    | normal =>
      have q3:I A2 s3∧μ A2 s3 < μ A1 s:=q3
      have hRn:R (A3,s3) (μ A2 s3):=by rw [hR]; exact ⟨A2,q1,q3.1,rfl⟩
      refine ⟨⟨_,hRn⟩,?_⟩
      have:=(hf (A3,s3) ⟨_,hRn⟩).2 _ hRn
      simp only at j4 ⊢
      omega
    | exit id=>exact hk (.exit id) A2 A3 s3 q1 q3
    | ret=>exact hk .ret A2 A3 s3 q1 q3
theorem vcalls_enterq {S:List (Nat × Nat)} {D C:List Nat} {f:FuncId} {F:FP} (hf:cFunQ P S D C f=some F) {args:List V} {Q:V→St→Prop} {st:St} (hn:args.length≤F.n) (ha:(S.all fun p=>decide (args.length≤p.1) && decide (p.1 < F.n))=true)
    (h:st.Wf→(∀ d ∈ args,d.Ok)→vwp P F.body (finP F.res Q) (args0 args) st):VCalls P f args st Q:=by
  unfold cFunQ at hf
  split at hf
  · rename_i F0 hF0
    split at hf
    · rename_i hr
      simp only [Option.map_eq_some_iff] at hf
      obtain ⟨b,hb,rfl⟩:=hf
      refine vcalls_enterp hF0 hn ha fun hwf hok=>cpCode_sound F0.body hb (fun _ _=>rfl) (h hwf hok) fun e A' A s hA hq=>?_
      have hrv:∀ r ∈ F0.res,rpVal s A' r=rpVal s A r:=fun r hm=>by
        have:=hA r.slot (okR_mem hr _ (List.mem_map.2 ⟨r,hm,rfl⟩))
        cases r <;> (simp only [RP.slot] at this; simp only [rpVal,this])
      have fin:vretp F0.res Q A' s→vretp F0.res Q A s:=fun ⟨h1,r',st2,h2,h3⟩=>by
        have e1:∀ {l:List RP},(∀ r ∈ l,rpVal s A' r=rpVal s A r)→rpAll s A' l→rpAll s A l:=by
          intro l
          induction l with
          | nil=>exact fun _ _=>trivial
          | cons x l ih=>exact fun h k=>⟨by rw [← h x (by simp)]; exact k.1,ih (fun r hr=>h r (by simp [hr])) k.2⟩
        have e2:respV s A' F0.res=respV s A F0.res:=by
          match hF:F0.res with
          | []=>rfl
          | [x]=>rw [hF] at hrv; simp only [respV,hrv x (by simp)]
          | x :: y :: l =>
            rw [hF] at hrv
            show V.tup _=V.tup _
            congr 1
            exact List.map_congr_left fun r hr=>by rw [hrv r hr]
        exact ⟨e1 hrv h1,r',st2,by rw [← e2]; exact h2,h3⟩
      cases e with
      | normal=>exact fin hq
      | ret=>exact fin hq
      | exit i=>exact hq.elim
    · cases hf
  · cases hf
end
end
abbrev zo (d:Nat) (p:VOp):VO:=⟨some d,p,none,[]⟩
abbrev zg (d:Nat) (p:VOp) (i:Nat) (b:Bool):VO:=⟨some d,p,some (i,b),[]⟩
abbrev zn (p:VOp):VO:=⟨none,p,none,[]⟩
end Go.Proofs.YtcoalhgmlbhhmaaGreat
