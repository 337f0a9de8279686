/- Steps of the proof, joined: V11, BeLaw, VData. -/
import Derived.Test.YtnjmddlgpcnpeaaGreatZeb
import Derived.Laws.BitsAllLaws
namespace Go.Proofs.YtnjmddlgpcnpeaaGreat
open Go
section
open Go Go.RowKit
inductive Kt where
  | fin (Q:VQ)
  | code (c:VC) (k:Kt)
  | blk (id:Nat) (k:Kt)
  | rnd (J:(Nat→V)→St→Prop) (k:Kt)
def Kt.q (P:Program):Kt→VQ
  | .fin Q=>Q
  | .code c k=>(k.q P).seq (vwp P c (k.q P))
  | .blk id k=>(k.q P).blk id
  | .rnd J k=>(k.q P).seq J
def Run (P:Program) (c:VC) (k:Kt) (A:Nat→V) (st:St):Prop:=vwp P c (k.q P) A st
def Ops (P:Program) (ops:List VO) (k:Kt) (A:Nat→V) (st:St):Prop:=vops P (k.q P .normal) ops A st
def At (P:Program) (k:Kt) (e:VEx) (A:Nat→V) (st:St):Prop:=k.q P e A st
def If (P:Program) (c:V) (a b:VC) (k:Kt) (A:Nat→V) (st:St):Prop :=
  match c with
  | .sc (.bool t)=>(t=true→Run P a k A st)∧(t=false→Run P b k A st)
  | _=>False
def Grd (P:Program) (v:V) (w:Bool) (o:VO) (rest:List VO) (k:Kt) (A:Nat→V) (st:St):Prop :=
  match v with
  | .sc (.bool b)=>(b=w→Ops P (o :: rest) k A st)∧(b ≠ w→Ops P rest k (putV A o.dst .und) st)
  | .und=>Ops P rest k (putV A o.dst .und) st
  | _=>False
def Cal (P:Program) (f:FuncId) (args:List V) (d:Option Nat) (obs:List (Option Nat × X × Nat)) (rest:List VO) (k:Kt) (A:Nat→V) (st:St):Prop :=
  VCalls P f args st fun r st'=>r.Ok→obsOk st' A obs∧Ops P rest k (putV A d r) st'
def App (P:Program) (size bytes:Nat) (x y:V) (d:Option Nat) (obs:List (Option Nat × X × Nat)) (rest:List VO) (k:Kt) (A:Nat→V) (st:St):Prop :=
  vapp size bytes x y st fun r st'=>obsOk st' A obs∧Ops P rest k (putV A d r) st'
def Apx (P:Program) (pr:Prop × V) (size bytes:Nat) (x:V) (d:Option Nat) (obs:List (Option Nat × X × Nat)) (rest:List VO) (k:Kt) (A:Nat→V) (st:St):Prop :=
  pr.1∧App P size bytes x pr.2 d obs rest k A st
def Opv (P:Program) (pr:Prop × V) (d:Option Nat) (rest:List VO) (k:Kt) (A:Nat→V) (st:St):Prop:=pr.1∧Ops P rest k (putV A d pr.2) st
def Bx (P:Program) (cs:List V) (d:Option Nat) (obs:List (Option Nat × X × Nat)) (rest:List VO) (k:Kt) (A:Nat→V) (st:St):Prop :=
  cs.length ≠ 0∧∀ b,st.sz≤b→obsOk (st.put b cs) A obs∧Ops P rest k (putV A d (ptrV b)) (st.put b cs)
def Bo (P:Program) (size:Nat) (cs:List V) (d:Option Nat) (obs:List (Option Nat × X × Nat)) (rest:List VO) (k:Kt) (A:Nat→V) (st:St):Prop :=
  allLen size cs∧((∀ g,st.sz≤g→obsOk (st.use g cs.length) A obs∧Ops P rest k (putV A d (.sl (.own g size) cs)) (st.use g cs.length)) ∨
    ∀ b,st.sz≤b→obsOk (st.put b (cs.flatMap V.cells)) A obs∧Ops P rest k (putV A d (.sc (.slice (some ⟨b,0,none⟩) cs.length cs.length))) (st.put b (cs.flatMap V.cells)))
def Stp (P:Program) (cs:List V) (b:Nat) (obs:List (Option Nat × X × Nat)) (d:Option Nat) (rest:List VO) (k:Kt) (A:Nat→V) (st:St):Prop :=
  obsOk (st.put b cs) A obs∧Ops P rest k (putV A d .und) (st.put b cs)
def Stb (P:Program) (bx:Option (List V)) (size b o:Nat) (ds:List V) (obs:List (Option Nat × X × Nat)) (d:Option Nat) (rest:List VO) (k:Kt) (A:Nat→V) (st:St):Prop :=
  match bx with
  | some cs=>ds.length=size∧0 < size∧o + size≤cs.length∧mono cs∧Stp P (splice cs o ds) b obs d rest k A st
  | none=>False
def Mks (P:Program) (bytes:Nat) (z:List V) (x:V) (d:Option Nat) (obs:List (Option Nat × X × Nat)) (rest:List VO) (k:Kt) (A:Nat→V) (st:St):Prop :=
  match x with
  | .sc (.int _ n)=>0≤n∧(bytes:Int) * n≤281474976710656∧n≤9223372036854775807∧∀ b,st.sz≤b→obsOk (st.put b (List.replicate n.toNat z).flatten) A obs∧Ops P rest k (putV A d (.sc (.slice (some ⟨b,0,none⟩) n.toNat n.toNat))) (st.put b (List.replicate n.toNat z).flatten)
  | _=>False
def Mkr (P:Program) (size:Nat) (z:List V) (n:Nat) (d:Option Nat) (obs:List (Option Nat × X × Nat)) (rest:List VO) (k:Kt) (A:Nat→V) (st:St):Prop :=
  (∀ g,st.sz≤g→obsOk (st.use g 0) A obs∧Ops P rest k (putV A d (.sl (.own g size) [])) (st.use g 0)) ∨
    ∀ b,st.sz≤b→obsOk (st.put b (List.replicate n z).flatten) A obs∧Ops P rest k (putV A d (.sc (.slice (some ⟨b,0,none⟩) 0 n))) (st.put b (List.replicate n z).flatten)
def Mko (P:Program) (size bytes:Nat) (z:List V) (x:V) (d:Option Nat) (obs:List (Option Nat × X × Nat)) (rest:List VO) (k:Kt) (A:Nat→V) (st:St):Prop :=
  match x with
  | .sc (.int _ n)=>0≤n∧(bytes:Int) * n≤281474976710656∧n≤9223372036854775807∧Mkr P size z n.toNat d obs rest k A st
  | _=>False
def Sto (P:Program) (size:Nat) (x y:V) (obs:List (Option Nat × X × Nat)) (d:Option Nat) (rest:List VO) (k:Kt) (A:Nat→V) (st:St):Prop :=
  match x with
  | .sc (.pointer (some ⟨b,o,none⟩))=>Stb P (st.box b) size b o y.cells obs d rest k A st
  | _=>False
def Mub (P:Program) (bx:Option (List V)) (ag:Bool) (lf:List Lf) (b:Nat) (kv v:V) (d:Option Nat) (obs:List (Option Nat × X × Nat)) (rest:List VO) (k:Kt) (A:Nat→V) (st:St):Prop :=
  match bx with
  | some [.mp ag' lf' es c]=>ag'=ag∧lf'=lf∧kOk ag lf kv∧Stp P [.mp ag lf (mset kv v c es) (mclk es kv c)] b obs d rest k A st
  | _=>False
def Mup (P:Program) (ag:Bool) (lf:List Lf) (x kv v:V) (d:Option Nat) (obs:List (Option Nat × X × Nat)) (rest:List VO) (k:Kt) (A:Nat→V) (st:St):Prop :=
  match x with
  | .sc (.map (some b))=>Mub P (st.box b) ag lf b kv v d obs rest k A st
  | _=>False
def Mdb (P:Program) (bx:Option (List V)) (ag:Bool) (lf:List Lf) (b:Nat) (kv:V) (d:Option Nat) (obs:List (Option Nat × X × Nat)) (rest:List VO) (k:Kt) (A:Nat→V) (st:St):Prop :=
  match bx with
  | some [.mp ag' lf' es c]=>ag'=ag∧lf'=lf∧kOk ag lf kv∧obsOk (st.put b [.mp ag lf (mdel kv es) c]) A obs∧Ops P rest k (putV A d (.tup [])) (st.put b [.mp ag lf (mdel kv es) c])
  | _=>False
def Mdl (P:Program) (ag:Bool) (lf:List Lf) (x kv:V) (d:Option Nat) (obs:List (Option Nat × X × Nat)) (rest:List VO) (k:Kt) (A:Nat→V) (st:St):Prop :=
  match x with
  | .sc (.map none)=>kOk ag lf kv∧obsOk st A obs∧Ops P rest k (putV A d (.tup [])) st
  | .sc (.map (some b))=>Mdb P (st.box b) ag lf b kv d obs rest k A st
  | _=>False
def Rgb (P:Program) (bx:Option (List V)) (b:Nat) (d:Option Nat) (obs:List (Option Nat × X × Nat)) (rest:List VO) (k:Kt) (A:Nat→V) (st:St):Prop :=
  match bx with
  | some [.mp _ _ _ c]=>∀ r,st.sz≤r→obsOk (st.put r [.it (some b) c [] c]) A obs∧Ops P rest k (putV A d (ptrV r)) (st.put r [.it (some b) c [] c])
  | _=>False
def Rng (P:Program) (x:V) (d:Option Nat) (obs:List (Option Nat × X × Nat)) (rest:List VO) (k:Kt) (A:Nat→V) (st:St):Prop :=
  match x with
  | .sc (.map none)=>∀ r,st.sz≤r→obsOk (st.put r [.it none 0 [] 0]) A obs∧Ops P rest k (putV A d (ptrV r)) (st.put r [.it none 0 [] 0])
  | .sc (.map (some b))=>Rgb P (st.box b) b d obs rest k A st
  | _=>False
def Nxt (P:Program) (x:V) (d:Option Nat) (obs:List (Option Nat × X × Nat)) (rest:List VO) (k:Kt) (A:Nat→V) (st:St):Prop :=
  vnxt x st fun r st'=>obsOk st' A obs∧Ops P rest k (putV A d r) st'
def Meb (P:Program) (bx:Option (List V)) (ag:Bool) (lf:List Lf) (z:V) (b:Nat) (kv:V) (d:Option Nat) (obs:List (Option Nat × X × Nat)) (rest:List VO) (k:Kt) (A:Nat→V) (st:St):Prop :=
  match bx with
  | some [.mp ag' lf' es c]=>ag'=ag∧lf'=lf∧kOk ag lf kv∧obsOk (st.put b [.mp ag lf (mset kv ((mfind kv es).getD z) c es) (mclk es kv c)]) A obs∧Ops P rest k (putV A d (.tup [(mfind kv es).getD z,.sc (.int .i64 (mborn kv c es))])) (st.put b [.mp ag lf (mset kv ((mfind kv es).getD z) c es) (mclk es kv c)])
  | _=>False
def Met (P:Program) (ag:Bool) (lf:List Lf) (z x kv:V) (d:Option Nat) (obs:List (Option Nat × X × Nat)) (rest:List VO) (k:Kt) (A:Nat→V) (st:St):Prop :=
  match x with
  | .sc (.map (some b))=>Meb P (st.box b) ag lf z b kv d obs rest k A st
  | _=>False
def Esb (P:Program) (bx:Option (List V)) (b s:Nat) (v:V) (d:Option Nat) (obs:List (Option Nat × X × Nat)) (rest:List VO) (k:Kt) (A:Nat→V) (st:St):Prop :=
  match bx with
  | some [.mp ag lf es c]=>(∃ e ∈ es,e.2.2=s)∧Stp P [.mp ag lf (mstamp s v es) c] b obs d rest k A st
  | _=>False
def Est (P:Program) (x s v:V) (d:Option Nat) (obs:List (Option Nat × X × Nat)) (rest:List VO) (k:Kt) (A:Nat→V) (st:St):Prop :=
  match x,s with
  | .sc (.map (some b)),.sc (.int .i64 n)=>0≤n∧Esb P (st.box b) b n.toNat v d obs rest k A st
  | _,_=>False
def Clb (P:Program) (bx:Option (List V)) (size:Nat) (z:List V) (b o n:Nat) (d:Option Nat) (obs:List (Option Nat × X × Nat)) (rest:List VO) (k:Kt) (A:Nat→V) (st:St):Prop :=
  match bx with
  | some cs=>o + n * size≤cs.length∧mono cs∧obsOk (st.put b (splice cs o (List.replicate n z).flatten)) A obs∧Ops P rest k (putV A d (.tup [])) (st.put b (splice cs o (List.replicate n z).flatten))
  | none=>False
def Clr (P:Program) (size:Nat) (z:List V) (x:V) (d:Option Nat) (obs:List (Option Nat × X × Nat)) (rest:List VO) (k:Kt) (A:Nat→V) (st:St):Prop :=
  match x with
  | .sl _ []=>obsOk st A obs∧Ops P rest k (putV A d (.tup [])) st
  | .sc (.slice (some ⟨b,o,none⟩) n _)=>Clb P (st.box b) size z b o n d obs rest k A st
  | _=>False
def Clv (P:Program) (x:V) (args:List V) (d:Option Nat) (obs:List (Option Nat × X × Nat)) (rest:List VO) (k:Kt) (A:Nat→V) (st:St):Prop :=
  match x with
  | .sc (.func (.func f) first cap)=>callable P f=true∧(∀ v ∈ first.toList ++ cap.toList,v.oneCell'=true)∧Cal P f (first.toList.map V.sc ++ args ++ cap.toList.map V.sc) d obs rest k A st
  | _=>False
def Ivk (P:Program) (name:String) (x:V) (args:List V) (d:Option Nat) (obs:List (Option Nat × X × Nat)) (rest:List VO) (k:Kt) (A:Nat→V) (st:St):Prop :=
  vinv P name x args st fun r st'=>r.Ok→obsOk st' A obs∧Ops P rest k (putV A d r) st'
def Cpb (P:Program) (bx by':Option (List V)) (size b o n o2 m:Nat) (d:Option Nat) (obs:List (Option Nat × X × Nat)) (rest:List VO) (k:Kt) (A:Nat→V) (st:St):Prop :=
  match bx,by' with
  | some cs,some ds=>mono cs∧mono ds∧o + n * size≤cs.length∧o2 + m * size≤ds.length∧obsOk (st.put b (splice cs o ((ds.drop o2).take (min m n * size)))) A obs ∧
    Ops P rest k (putV A d (.sc (.int .i64 (min m n:Nat)))) (st.put b (splice cs o ((ds.drop o2).take (min m n * size))))
  | _,_=>False
def Cpy (P:Program) (size:Nat) (x y:V) (d:Option Nat) (obs:List (Option Nat × X × Nat)) (rest:List VO) (k:Kt) (A:Nat→V) (st:St):Prop :=
  match x,y with
  | .sc (.slice (some ⟨b,o,none⟩) n _),.sc (.slice (some ⟨b2,o2,none⟩) m _)=>Cpb P (st.box b) (st.box b2) size b o n o2 m d obs rest k A st
  | _,_=>False
def vbld (z:List V) (ps:List (Nat × Nat × V)):Prop × V:=((fillV z ps).1,.agg (fillV z ps).2)
def vbsl (size:Nat) (cs:List V):Prop × V:=(allLen size cs,.sl .no cs)
def over (ws:List Nat) (B A:Nat→V):Nat→V:=fun t=>if t ∈ ws then B t else A t
section
variable {P:Program} {k:Kt} {A:Nat→V} {st:St}
theorem run_skip:Run P .skip k A st=At P k .normal A st:=_root_.id rfl
theorem run_reg {ops:List VO}:Run P (.reg ops) k A st=Ops P ops k A st:=_root_.id rfl
theorem run_seq {a b:VC}:Run P (.seq a b) k A st=Run P a (.code b k) A st:=_root_.id rfl
theorem run_blk {id:Nat} {c:VC}:Run P (.blk id c) k A st=Run P c (.blk id k) A st:=_root_.id rfl
theorem run_exit {id:Nat}:Run P (.exit id) k A st=At P k (.exit id) A st:=_root_.id rfl
theorem run_ret:Run P .ret k A st=At P k .ret A st:=_root_.id rfl
theorem run_cond {c:X} {a b:VC}:Run P (.cond c a b) k A st=If P (c.ev A) a b k A st:=by
  unfold Run If
  simp only [vwp]
  all_goals rfl
theorem if_true {a b:VC}:If P (.sc (.bool true)) a b k A st=Run P a k A st:=by simp [If]
theorem if_false {a b:VC}:If P (.sc (.bool false)) a b k A st=Run P b k A st:=by simp [If]
theorem If.mk {t:Bool} {a b:VC} (h1:t=true→Run P a k A st) (h2:t=false→Run P b k A st):If P (.sc (.bool t)) a b k A st:=⟨h1,h2⟩
theorem If.dec {p:Prop} {_:Decidable p} {a b:VC} (h1:p→Run P a k A st) (h2:¬ p→Run P b k A st):If P (.sc (.bool (decide p))) a b k A st:=⟨fun h=>h1 (by simpa using h),fun h=>h2 (by simpa using h)⟩
theorem at_code_n {c:VC}:At P (.code c k) .normal A st=Run P c k A st:=_root_.id rfl
theorem at_code_x {c:VC} {i:Nat}:At P (.code c k) (.exit i) A st=At P k (.exit i) A st:=_root_.id rfl
theorem at_code_r {c:VC}:At P (.code c k) .ret A st=At P k .ret A st:=_root_.id rfl
theorem at_blk_n {id:Nat}:At P (.blk id k) .normal A st=At P k .normal A st:=_root_.id rfl
theorem at_blk_x {id i:Nat}:At P (.blk id k) (.exit i) A st=if i=id then At P k .normal A st else At P k (.exit i) A st:=_root_.id rfl
theorem at_blk_r {id:Nat}:At P (.blk id k) .ret A st=At P k .ret A st:=_root_.id rfl
theorem at_rnd_n {J:(Nat→V)→St→Prop}:At P (.rnd J k) .normal A st=J A st:=_root_.id rfl
theorem at_rnd_x {J:(Nat→V)→St→Prop} {i:Nat}:At P (.rnd J k) (.exit i) A st=At P k (.exit i) A st:=_root_.id rfl
theorem at_rnd_r {J:(Nat→V)→St→Prop}:At P (.rnd J k) .ret A st=At P k .ret A st:=_root_.id rfl
theorem at_fin_n {res:List RV} {Q:V→St→Prop}:At P (.fin (finQ res Q)) .normal A st=vret res Q A st:=_root_.id rfl
theorem at_fin_r {res:List RV} {Q:V→St→Prop}:At P (.fin (finQ res Q)) .ret A st=vret res Q A st:=_root_.id rfl
theorem ops_nil:Ops P [] k A st=At P k .normal A st:=_root_.id rfl
theorem ops_grd {d:Option Nat} {op:VOp} {s:Nat} {w:Bool} {obs:List (Option Nat × X × Nat)} {rest:List VO}:Ops P (⟨d,op,some (s,w),obs⟩ :: rest) k A st=Grd P (A s) w ⟨d,op,none,obs⟩ rest k A st:=_root_.id rfl
theorem grd_und {w:Bool} {o:VO} {rest:List VO}:Grd P .und w o rest k A st=Ops P rest k (putV A o.dst .und) st:=_root_.id rfl
theorem grd_tt {o:VO} {rest:List VO}:Grd P (.sc (.bool true)) true o rest k A st=Ops P (o :: rest) k A st:=by simp [Grd]
theorem grd_ff {o:VO} {rest:List VO}:Grd P (.sc (.bool false)) false o rest k A st=Ops P (o :: rest) k A st:=by simp [Grd]
theorem grd_tf {o:VO} {rest:List VO}:Grd P (.sc (.bool true)) false o rest k A st=Ops P rest k (putV A o.dst .und) st:=by simp [Grd]
theorem grd_ft {o:VO} {rest:List VO}:Grd P (.sc (.bool false)) true o rest k A st=Ops P rest k (putV A o.dst .und) st:=by simp [Grd]
theorem Grd.mk {b w:Bool} {o:VO} {rest:List VO} (h1:b=w→Ops P (o :: rest) k A st) (h2:b ≠ w→Ops P rest k (putV A o.dst .und) st):Grd P (.sc (.bool b)) w o rest k A st:=⟨h1,h2⟩
section
variable {d:Option Nat} {obs:List (Option Nat × X × Nat)} {rest:List VO}
theorem ops_mv {x:X}:Ops P (⟨d,.mv x,none,[]⟩ :: rest) k A st=Opv P (True,x.ev A) d rest k A st:=by
  simp [Opv,Ops,vops,vguard,vop,pop,obsOk]
theorem ops_pick {c x y:X}:Ops P (⟨d,.pick c x y,none,[]⟩ :: rest) k A st=Opv P (vpick (x.ev A) (y.ev A) (c.ev A)) d rest k A st:=by
  simp [Opv,Ops,vops,vguard,vop,pop,obsOk]
theorem ops_bin {op:BinOp} {x y:X}:Ops P (⟨d,.bin op x y,none,[]⟩ :: rest) k A st=Opv P (vbin op (x.ev A) (y.ev A)) d rest k A st:=by
  simp [Opv,Ops,vops,vguard,vop,pop,obsOk]
theorem ops_binZ {op:BinOp} {x y:X}:Ops P (⟨d,.binZ op x y,none,[]⟩ :: rest) k A st=Opv P (vbinZ op (x.ev A) (y.ev A)) d rest k A st:=by
  simp [Opv,Ops,vops,vguard,vop,pop,obsOk]
theorem ops_un {op:UnOp} {x:X}:Ops P (⟨d,.un op x,none,[]⟩ :: rest) k A st=Opv P (vun op (x.ev A)) d rest k A st:=by
  simp [Opv,Ops,vops,vguard,vop,pop,obsOk]
theorem ops_conv {c:IntKind} {x:X}:Ops P (⟨d,.conv c x,none,[]⟩ :: rest) k A st=Opv P (vconv c (x.ev A)) d rest k A st:=by
  simp [Opv,Ops,vops,vguard,vop,pop,obsOk]
theorem ops_fld {off:Nat} {x:X}:Ops P (⟨d,.fld off x,none,[]⟩ :: rest) k A st=Opv P (vfld off (x.ev A)) d rest k A st:=by
  simp [Opv,Ops,vops,vguard,vop,pop,obsOk]
theorem ops_binb {neg:Bool} {x y:X}:Ops P (⟨d,.binb neg x y,none,[]⟩ :: rest) k A st=Opv P (vbinb neg (x.ev A) (y.ev A)) d rest k A st:=by
  simp [Opv,Ops,vops,vguard,vop,pop,obsOk]
theorem ops_eqs {neg:Bool} {l:List Lf} {x y:X}:Ops P (⟨d,.eqs neg l x y,none,[]⟩ :: rest) k A st=Opv P (veqs neg l (x.ev A) (y.ev A)) d rest k A st:=by
  simp [Opv,Ops,vops,vguard,vop,pop,obsOk]
theorem ops_isnil {neg:Bool} {x:X}:Ops P (⟨d,.isnil neg x,none,[]⟩ :: rest) k A st=Opv P (visnil neg (x.ev A)) d rest k A st:=by
  simp [Opv,Ops,vops,vguard,vop,pop,obsOk]
theorem ops_pnil {neg:Bool} {x:X}:Ops P (⟨d,.pnil neg x,none,[]⟩ :: rest) k A st=Opv P (vpnil neg (x.ev A)) d rest k A st:=by
  simp [Opv,Ops,vops,vguard,vop,pop,obsOk]
theorem ops_b2s {x:X}:Ops P (⟨d,.b2s x,none,[]⟩ :: rest) k A st=Opv P (vb2s (x.ev A)) d rest k A st:=by
  simp [Opv,Ops,vops,vguard,vop,pop,obsOk]
theorem ops_b2sB {x:X}:Ops P (⟨d,.b2sB x,none,[]⟩ :: rest) k A st=Opv P (vb2sB st (x.ev A)) d rest k A st:=by
  simp [Opv,Ops,vops,vguard,vop,pop,obsOk]
theorem ops_s2a {n size:Nat} {x:X}:Ops P (⟨d,.s2a n size x,none,[]⟩ :: rest) k A st=Opv P (vs2a n size (x.ev A)) d rest k A st:=by
  simp [Opv,Ops,vops,vguard,vop,pop,obsOk]
theorem ops_slcA {n size:Nat} {x:X} {lo hi:Option X}:Ops P (⟨d,.slcA n size x lo hi,none,[]⟩ :: rest) k A st=Opv P (vslcA n size (x.ev A) (lo.map fun x=>x.ev A) (hi.map fun x=>x.ev A)) d rest k A st:=by
  simp [Opv,Ops,vops,vguard,vop,pop,obsOk]
theorem ops_s2b {x:X}:Ops P (⟨d,.s2b x,none,[]⟩ :: rest) k A st=Opv P (vs2b (x.ev A)) d rest k A st:=by
  simp [Opv,Ops,vops,vguard,vop,pop,obsOk]
theorem ops_sidx {x y:X}:Ops P (⟨d,.sidx x y,none,[]⟩ :: rest) k A st=Opv P (vsidx (x.ev A) (y.ev A)) d rest k A st:=by
  simp [Opv,Ops,vops,vguard,vop,pop,obsOk]
theorem ops_aidx {n:Nat} {x y:X}:Ops P (⟨d,.aidx n x y,none,[]⟩ :: rest) k A st=Opv P (vaidx n (x.ev A) (y.ev A)) d rest k A st:=by
  simp [Opv,Ops,vops,vguard,vop,pop,obsOk]
theorem ops_mks {size bytes:Nat} {z:List V} {x:X}:Ops P (⟨d,.mks size bytes z x,none,obs⟩ :: rest) k A st=Mks P bytes z (x.ev A) d obs rest k A st:=by
  unfold Mks
  simp only [Ops,vops,vguard,vop,vmks]
  all_goals rfl
theorem ops_mko {size bytes:Nat} {z:List V} {x:X}:Ops P (⟨d,.mko size bytes z x,none,obs⟩ :: rest) k A st=Mko P size bytes z (x.ev A) d obs rest k A st:=by
  unfold Mko
  simp only [Ops,vops,vguard,vop,vmko]
  all_goals rfl
theorem mks_int {bytes:Nat} {z:List V} {kk:IntKind} {n:Int}:Mks P bytes z (.sc (.int kk n)) d obs rest k A st=(0≤n∧(bytes:Int) * n≤281474976710656∧n≤9223372036854775807∧∀ b,st.sz≤b→obsOk (st.put b (List.replicate n.toNat z).flatten) A obs∧Ops P rest k (putV A d (.sc (.slice (some ⟨b,0,none⟩) n.toNat n.toNat))) (st.put b (List.replicate n.toNat z).flatten)):=_root_.id rfl
theorem mko_int {size bytes:Nat} {z:List V} {kk:IntKind} {n:Int}:Mko P size bytes z (.sc (.int kk n)) d obs rest k A st=(0≤n∧(bytes:Int) * n≤281474976710656∧n≤9223372036854775807∧Mkr P size z n.toNat d obs rest k A st):=_root_.id rfl
theorem Mkr.own {size n:Nat} {z:List V} (hk:∀ g,st.sz≤g→obsOk (st.use g 0) A obs∧Ops P rest k (putV A d (.sl (.own g size) [])) (st.use g 0)):Mkr P size z n d obs rest k A st:=.inl hk
theorem Mkr.box {size n:Nat} {z:List V} (hk:∀ b,st.sz≤b→obsOk (st.put b (List.replicate n z).flatten) A obs∧Ops P rest k (putV A d (.sc (.slice (some ⟨b,0,none⟩) 0 n))) (st.put b (List.replicate n z).flatten)):Mkr P size z n d obs rest k A st:=.inr hk
theorem ops_ix {size:Nat} {x i:X}:Ops P (⟨d,.ix size x i,none,[]⟩ :: rest) k A st=Opv P (vix size (x.ev A) (i.ev A)) d rest k A st:=by
  simp [Opv,Ops,vops,vguard,vop,pop,obsOk]
theorem ops_ixa {n size:Nat} {x i:X}:Ops P (⟨d,.ixa n size x i,none,[]⟩ :: rest) k A st=Opv P (vixa n size (x.ev A) (i.ev A)) d rest k A st:=by
  simp [Opv,Ops,vops,vguard,vop,pop,obsOk]
theorem ops_load {n:Option Nat} {x:X}:Ops P (⟨d,.load n x,none,[]⟩ :: rest) k A st=Opv P (vload st n (x.ev A)) d rest k A st:=by
  simp [Opv,Ops,vops,vguard,vop,pop,obsOk]
theorem ops_nilck {x:X}:Ops P (⟨d,.nilck x,none,[]⟩ :: rest) k A st=Opv P (vnil (x.ev A)) d rest k A st:=by
  simp [Opv,Ops,vops,vguard,vop,pop,obsOk]
theorem ops_ext {x:X} {i:Nat}:Ops P (⟨d,.ext x i,none,[]⟩ :: rest) k A st=Opv P (vext i (x.ev A)) d rest k A st:=by
  simp [Opv,Ops,vops,vguard,vop,pop,obsOk]
theorem ops_len {x:X}:Ops P (⟨d,.len x,none,[]⟩ :: rest) k A st=Opv P (vlen (x.ev A)) d rest k A st:=by
  simp [Opv,Ops,vops,vguard,vop,pop,obsOk]
theorem ops_slen {x:X}:Ops P (⟨d,.slen x,none,[]⟩ :: rest) k A st=Opv P (vslen (x.ev A)) d rest k A st:=by
  simp [Opv,Ops,vops,vguard,vop,pop,obsOk]
theorem ops_mn {x y:X}:Ops P (⟨d,.mn x y,none,[]⟩ :: rest) k A st=Opv P (vmm false (x.ev A) (y.ev A)) d rest k A st:=by
  simp [Opv,Ops,vops,vguard,vop,pop,obsOk]
theorem ops_mx {x y:X}:Ops P (⟨d,.mx x y,none,[]⟩ :: rest) k A st=Opv P (vmm true (x.ev A) (y.ev A)) d rest k A st:=by
  simp [Opv,Ops,vops,vguard,vop,pop,obsOk]
theorem ops_bld {z:List V} {ps:List (Nat × Nat × X)}:Ops P (⟨d,.bld z ps,none,[]⟩ :: rest) k A st=Opv P (vbld z (ps.map fun p=>(p.1,p.2.1,p.2.2.ev A))) d rest k A st:=by
  simp [Opv,vbld,Ops,vops,vguard,vop,pop,obsOk]
theorem ops_bsl {size:Nat} {xs:List X}:Ops P (⟨d,.bsl size xs,none,[]⟩ :: rest) k A st=Opv P (vbsl size (xs.map fun x=>strip (x.ev A))) d rest k A st:=by
  simp [Opv,vbsl,Ops,vops,vguard,vop,pop,obsOk]
theorem ops_slc {size:Nat} {x:X} {lo hi:Option X}:Ops P (⟨d,.slc size x lo hi,none,[]⟩ :: rest) k A st=Opv P (vslc size (x.ev A) (lo.map fun x=>x.ev A) (hi.map fun x=>x.ev A)) d rest k A st:=by
  simp [Opv,Ops,vops,vguard,vop,pop,obsOk]
theorem ops_sslc {x:X} {lo hi:Option X}:Ops P (⟨d,.sslc x lo hi,none,[]⟩ :: rest) k A st=Opv P (vsslc (x.ev A) (lo.map fun x=>x.ev A) (hi.map fun x=>x.ev A)) d rest k A st:=by
  simp [Opv,Ops,vops,vguard,vop,pop,obsOk]
theorem ops_box {x:X}:Ops P (⟨d,.box x,none,obs⟩ :: rest) k A st=Bx P (x.ev A).cells d obs rest k A st:=by
  simp [Bx,Ops,vops,vguard,vop]
theorem ops_alc {z:List V}:Ops P (⟨d,.alc z,none,obs⟩ :: rest) k A st=(∀ b,st.sz≤b→obsOk (st.put b z) A obs∧Ops P rest k (putV A d (ptrV b)) (st.put b z)):=by
  simp [Ops,vops,vguard,vop]
theorem ops_alcX {z:List V}:Ops P (⟨d,.alcX z,none,obs⟩ :: rest) k A st=(∀ b,st.box b=none→st.own b=none→obsOk (st.put b z) A obs∧Ops P rest k (putV A d (ptrV b)) (st.put b z)):=by
  simp [Ops,vops,vguard,vop]
theorem ops_boxX {x:X}:Ops P (⟨d,.boxX x,none,obs⟩ :: rest) k A st=((x.ev A).cells.length ≠ 0∧∀ b,st.box b=none→st.own b=none→obsOk (st.put b (x.ev A).cells) A obs∧Ops P rest k (putV A d (ptrV b)) (st.put b (x.ev A).cells)):=by
  simp [Ops,vops,vguard,vop]
theorem ops_bslo {size:Nat} {xs:List X}:Ops P (⟨d,.bslo size xs,none,obs⟩ :: rest) k A st=Bo P size (xs.map fun x=>strip (x.ev A)) d obs rest k A st:=by
  simp [Bo,Ops,vops,vguard,vop]
theorem ops_store {size:Nat} {x y:X}:Ops P (⟨d,.store size x y,none,obs⟩ :: rest) k A st=Sto P size (x.ev A) (y.ev A) obs d rest k A st:=_root_.id rfl
theorem ops_app {size bytes:Nat} {x y:X}:Ops P (⟨d,.app size bytes x y,none,obs⟩ :: rest) k A st=App P size bytes (x.ev A) (y.ev A) d obs rest k A st:=_root_.id rfl
theorem ops_appx {size bytes:Nat} {z:Option V} {x y:X}:Ops P (⟨d,.appx size bytes z x y,none,obs⟩ :: rest) k A st=Apx P (srcX z (y.ev A)) size bytes (x.ev A) d obs rest k A st:=_root_.id rfl
theorem apx_mk {p:Prop} {y:V} {size bytes:Nat} {x:V}:Apx P (p,y) size bytes x d obs rest k A st=(p∧App P size bytes x y d obs rest k A st):=_root_.id rfl
theorem ops_call {f:FuncId} {args:List X}:Ops P (⟨d,.call f args,none,obs⟩ :: rest) k A st=Cal P f (args.map fun x=>x.ev A) d obs rest k A st:=_root_.id rfl
theorem ops_mlk {ag ok:Bool} {lf:List Lf} {z:V} {x y:X}:Ops P (⟨d,.mlk ag lf z ok x y,none,[]⟩ :: rest) k A st=Opv P (vmlk st.box ag lf z ok (x.ev A) (y.ev A)) d rest k A st:=by
  simp [Opv,Ops,vops,vguard,vop,pop,obsOk]
theorem ops_mlen {x:X}:Ops P (⟨d,.mlen x,none,[]⟩ :: rest) k A st=Opv P (vmlen st.box (x.ev A)) d rest k A st:=by
  simp [Opv,Ops,vops,vguard,vop,pop,obsOk]
theorem ops_mnil {neg:Bool} {x:X}:Ops P (⟨d,.mnil neg x,none,[]⟩ :: rest) k A st=Opv P (vmnil neg (x.ev A)) d rest k A st:=by
  simp [Opv,Ops,vops,vguard,vop,pop,obsOk]
theorem ops_inil {neg:Bool} {x:X}:Ops P (⟨d,.inil neg x,none,[]⟩ :: rest) k A st=Opv P (vinil neg (x.ev A)) d rest k A st:=by
  simp [Opv,Ops,vops,vguard,vop,pop,obsOk]
theorem ops_ent {x:X}:Ops P (⟨d,.ent x,none,[]⟩ :: rest) k A st=Opv P (vent st.box (x.ev A)) d rest k A st:=by
  simp [Opv,Ops,vops,vguard,vop,pop,obsOk]
theorem ops_mfn {f:Fn} {a b:List X}:Ops P (⟨d,.mfn f a b,none,[]⟩ :: rest) k A st=Opv P (vmfn f (a.map fun x=>x.ev A) (b.map fun x=>x.ev A)) d rest k A st:=by
  simp [Opv,Ops,vops,vguard,vop,pop,obsOk]
theorem ops_slc3 {size:Nat} {x y q:X} {lo:Option X}:Ops P (⟨d,.slc3 size x lo y q,none,[]⟩ :: rest) k A st=Opv P (vslc3 size (x.ev A) (lo.map fun x=>x.ev A) (y.ev A) (q.ev A)) d rest k A st:=by
  simp [Opv,Ops,vops,vguard,vop,pop,obsOk]
theorem ops_mkm {ag:Bool} {lf:List Lf}:Ops P (⟨d,.mkm ag lf,none,obs⟩ :: rest) k A st=(∀ b,st.sz≤b→obsOk (st.put b [.mp ag lf [] 0]) A obs∧Ops P rest k (putV A d (.sc (.map (some b)))) (st.put b [.mp ag lf [] 0])):=by
  simp [Ops,vops,vguard,vop]
theorem ops_mup {ag:Bool} {lf:List Lf} {x y v:X}:Ops P (⟨d,.mup ag lf x y v,none,obs⟩ :: rest) k A st=Mup P ag lf (x.ev A) (y.ev A) (v.ev A) d obs rest k A st:=_root_.id rfl
theorem mup_map {ag:Bool} {lf:List Lf} {b:Nat} {kv v:V}:Mup P ag lf (.sc (.map (some b))) kv v d obs rest k A st=Mub P (st.box b) ag lf b kv v d obs rest k A st:=_root_.id rfl
theorem mub_some {ag ag':Bool} {lf lf':List Lf} {b c:Nat} {es:List (V × V × Nat)} {kv v:V}:Mub P (some [.mp ag' lf' es c]) ag lf b kv v d obs rest k A st=(ag'=ag∧lf'=lf∧kOk ag lf kv∧Stp P [.mp ag lf (mset kv v c es) (mclk es kv c)] b obs d rest k A st):=_root_.id rfl
theorem ops_mdel {ag:Bool} {lf:List Lf} {x y:X}:Ops P (⟨d,.mdel ag lf x y,none,obs⟩ :: rest) k A st=Mdl P ag lf (x.ev A) (y.ev A) d obs rest k A st:=_root_.id rfl
theorem mdl_nil {ag:Bool} {lf:List Lf} {kv:V}:Mdl P ag lf (.sc (.map none)) kv d obs rest k A st=(kOk ag lf kv∧obsOk st A obs∧Ops P rest k (putV A d (.tup [])) st):=_root_.id rfl
theorem mdl_map {ag:Bool} {lf:List Lf} {b:Nat} {kv:V}:Mdl P ag lf (.sc (.map (some b))) kv d obs rest k A st=Mdb P (st.box b) ag lf b kv d obs rest k A st:=_root_.id rfl
theorem mdb_some {ag ag':Bool} {lf lf':List Lf} {b c:Nat} {es:List (V × V × Nat)} {kv:V}:Mdb P (some [.mp ag' lf' es c]) ag lf b kv d obs rest k A st=(ag'=ag∧lf'=lf∧kOk ag lf kv∧obsOk (st.put b [.mp ag lf (mdel kv es) c]) A obs∧Ops P rest k (putV A d (.tup [])) (st.put b [.mp ag lf (mdel kv es) c])):=_root_.id rfl
theorem ops_rng {x:X}:Ops P (⟨d,.rng x,none,obs⟩ :: rest) k A st=Rng P (x.ev A) d obs rest k A st:=_root_.id rfl
theorem rng_none:Rng P (.sc (.map none)) d obs rest k A st=(∀ r,st.sz≤r→obsOk (st.put r [.it none 0 [] 0]) A obs∧Ops P rest k (putV A d (ptrV r)) (st.put r [.it none 0 [] 0])):=_root_.id rfl
theorem rng_map {b:Nat}:Rng P (.sc (.map (some b))) d obs rest k A st=Rgb P (st.box b) b d obs rest k A st:=_root_.id rfl
theorem rgb_some {ag:Bool} {lf:List Lf} {b c:Nat} {es:List (V × V × Nat)}:Rgb P (some [.mp ag lf es c]) b d obs rest k A st=(∀ r,st.sz≤r→obsOk (st.put r [.it (some b) c [] c]) A obs∧Ops P rest k (putV A d (ptrV r)) (st.put r [.it (some b) c [] c])):=_root_.id rfl
theorem ops_nxt {x:X}:Ops P (⟨d,.nxt x,none,obs⟩ :: rest) k A st=Nxt P (x.ev A) d obs rest k A st:=_root_.id rfl
theorem Nxt.nil {r since last:Nat} {seen:List Nat} (hr:st.box r=some [.it none since seen last]) (h:obsOk st A obs∧Ops P rest k (putV A d (.tup [.sc (.bool false)])) st):Nxt P (ptrV r) d obs rest k A st:=by
  unfold Nxt vnxt ptrV
  simp only [hr]
  exact h
theorem Nxt.mk {r m since last c:Nat} {seen:List Nat} {ag:Bool} {lf:List Lf} {es:List (V × V × Nat)} (hr:st.box r=some [.it (some m) since seen last]) (hm:st.box m=some [.mp ag lf es c]) (h1:∀ e ∈ es,e.2.2 < since) (h2:since≤last)
    (h3:(∀ e ∈ es,e.2.2 ∈ seen)→obsOk st A obs∧Ops P rest k (putV A d (.tup [.sc (.bool false)])) st)
    (h4:∀ e ∈ es,e.2.2 ∉ seen→obsOk (st.put r [.it (some m) since (seen ++ [e.2.2]) c]) A obs∧Ops P rest k (putV A d (.tup [.sc (.bool true),e.1,e.2.1])) (st.put r [.it (some m) since (seen ++ [e.2.2]) c])):Nxt P (ptrV r) d obs rest k A st:=by
  unfold Nxt vnxt ptrV
  simp only [hr,hm]
  exact ⟨h1,h2,h3,h4⟩
theorem ops_ment {ag:Bool} {lf:List Lf} {z:V} {x y:X}:Ops P (⟨d,.ment ag lf z x y,none,obs⟩ :: rest) k A st=Met P ag lf z (x.ev A) (y.ev A) d obs rest k A st:=_root_.id rfl
theorem met_map {ag:Bool} {lf:List Lf} {z:V} {b:Nat} {kv:V}:Met P ag lf z (.sc (.map (some b))) kv d obs rest k A st=Meb P (st.box b) ag lf z b kv d obs rest k A st:=_root_.id rfl
theorem meb_some {ag ag':Bool} {lf lf':List Lf} {z:V} {b c:Nat} {es:List (V × V × Nat)} {kv:V}:Meb P (some [.mp ag' lf' es c]) ag lf z b kv d obs rest k A st=(ag'=ag∧lf'=lf∧kOk ag lf kv∧obsOk (st.put b [.mp ag lf (mset kv ((mfind kv es).getD z) c es) (mclk es kv c)]) A obs∧Ops P rest k (putV A d (.tup [(mfind kv es).getD z,.sc (.int .i64 (mborn kv c es))])) (st.put b [.mp ag lf (mset kv ((mfind kv es).getD z) c es) (mclk es kv c)])):=_root_.id rfl
theorem ops_est {x s v:X}:Ops P (⟨d,.est x s v,none,obs⟩ :: rest) k A st=Est P (x.ev A) (s.ev A) (v.ev A) d obs rest k A st:=_root_.id rfl
theorem est_map {b:Nat} {n:Int} {v:V}:Est P (.sc (.map (some b))) (.sc (.int .i64 n)) v d obs rest k A st=(0≤n∧Esb P (st.box b) b n.toNat v d obs rest k A st):=_root_.id rfl
theorem esb_some {ag:Bool} {lf:List Lf} {b s c:Nat} {es:List (V × V × Nat)} {v:V}:Esb P (some [.mp ag lf es c]) b s v d obs rest k A st=((∃ e ∈ es,e.2.2=s)∧Stp P [.mp ag lf (mstamp s v es) c] b obs d rest k A st):=_root_.id rfl
theorem ops_clr {size:Nat} {z:List V} {x:X}:Ops P (⟨d,.clr size z x,none,obs⟩ :: rest) k A st=Clr P size z (x.ev A) d obs rest k A st:=_root_.id rfl
theorem clr_nil {size:Nat} {z:List V} {own:Tk}:Clr P size z (.sl own []) d obs rest k A st=(obsOk st A obs∧Ops P rest k (putV A d (.tup [])) st):=_root_.id rfl
theorem clr_box {size:Nat} {z:List V} {b o n c:Nat}:Clr P size z (.sc (.slice (some ⟨b,o,none⟩) n c)) d obs rest k A st=Clb P (st.box b) size z b o n d obs rest k A st:=_root_.id rfl
theorem clb_some {size:Nat} {z:List V} {b o n:Nat} {cs:List V}:Clb P (some cs) size z b o n d obs rest k A st=(o + n * size≤cs.length∧mono cs∧obsOk (st.put b (splice cs o (List.replicate n z).flatten)) A obs∧Ops P rest k (putV A d (.tup [])) (st.put b (splice cs o (List.replicate n z).flatten))):=_root_.id rfl
theorem ops_calv {x:X} {args:List X}:Ops P (⟨d,.calv x args,none,obs⟩ :: rest) k A st=Clv P (x.ev A) (args.map fun x=>x.ev A) d obs rest k A st:=_root_.id rfl
theorem clv_func {f:FuncId} {first cap:Array Value} {args:List V}:Clv P (.sc (.func (.func f) first cap)) args d obs rest k A st=(callable P f=true∧(∀ v ∈ first.toList ++ cap.toList,v.oneCell'=true)∧Cal P f (first.toList.map V.sc ++ args ++ cap.toList.map V.sc) d obs rest k A st):=_root_.id rfl
theorem Cal.mk {f:FuncId} {args:List V} {Q:V→St→Prop} (h:VCalls P f args st Q) (hk:∀ r st',Q r st'→r.Ok→obsOk st' A obs∧Ops P rest k (putV A d r) st'):Cal P f args d obs rest k A st:=h.mono fun r st' hq hok=>hk r st' hq hok
theorem ops_aidxn {n size:Nat} {x y:X}:Ops P (⟨d,.aidxn n size x y,none,[]⟩ :: rest) k A st=Opv P (vaidxn n size (x.ev A) (y.ev A)) d rest k A st:=by
  simp [Opv,Ops,vops,vguard,vop,pop,obsOk]
theorem ops_fv {off:Nat} {size:Option Nat} {x:X}:Ops P (⟨d,.fv off size x,none,[]⟩ :: rest) k A st=Opv P (vfv off size (x.ev A)) d rest k A st:=by
  simp [Opv,Ops,vops,vguard,vop,pop,obsOk]
theorem ops_mki {t:TypeId} {x:X}:Ops P (⟨d,.mki t x,none,[]⟩ :: rest) k A st=Opv P (vmki t (x.ev A)) d rest k A st:=by
  simp [Opv,Ops,vops,vguard,vop,pop,obsOk]
theorem ops_inv {name:String} {x:X} {args:List X}:Ops P (⟨d,.inv name x args,none,obs⟩ :: rest) k A st=Ivk P name (x.ev A) (args.map fun x=>x.ev A) d obs rest k A st:=_root_.id rfl
theorem Ivk.mk {name:String} {t:TypeId} {v:Value} {f:FuncId} {args:List V} (hm:methOf P t name=some f) (hc:callable P f=true) (ho:v.oneCell'=true) (h:Cal P f (.sc v :: args) d obs rest k A st):Ivk P name (.sc (.iface t v)) args d obs rest k A st:=⟨f,hm,hc,ho,h⟩
theorem ops_cpy {size:Nat} {x y:X}:Ops P (⟨d,.cpy size x y,none,obs⟩ :: rest) k A st=Cpy P size (x.ev A) (y.ev A) d obs rest k A st:=by
  unfold Cpy
  simp only [Ops,vops,vguard,vop,vcpy]
  all_goals rfl
theorem cpy_box {size b o n c b2 o2 m c2:Nat}:Cpy P size (.sc (.slice (some ⟨b,o,none⟩) n c)) (.sc (.slice (some ⟨b2,o2,none⟩) m c2)) d obs rest k A st=Cpb P (st.box b) (st.box b2) size b o n o2 m d obs rest k A st:=_root_.id rfl
theorem cpb_some {size b o n o2 m:Nat} {cs ds:List V}:Cpb P (some cs) (some ds) size b o n o2 m d obs rest k A st=(mono cs∧mono ds∧o + n * size≤cs.length∧o2 + m * size≤ds.length∧obsOk (st.put b (splice cs o ((ds.drop o2).take (min m n * size)))) A obs ∧
    Ops P rest k (putV A d (.sc (.int .i64 (min m n:Nat)))) (st.put b (splice cs o ((ds.drop o2).take (min m n * size))))):=_root_.id rfl
theorem App.full {size bytes:Nat} {tk:Tk} {l ys:List V} (hl:allSz size l) (hys:allSz size ys) (h0:0 < ys.length) (h1:l.length + ys.length≤maxLen) (h2:(l.length + ys.length) * bytes≤140737488355328)
    (hk:∀ r st',Own size st' r (l ++ ys)→AppSt st (.sl .full l) st' r→obsOk st' A obs∧Ops P rest k (putV A d r) st'):App P size bytes (.sl .full l) (.sl tk ys) d obs rest k A st:=.inr (.inr (.inr (.inl ⟨l,ys,rfl,hl,.inl ⟨tk,rfl⟩,hys,h0,h1,h2,hk⟩)))
theorem App.mk {size bytes:Nat} {x:V} {tk:Tk} {l ys:List V} (hown:Own size st x l) (hys:allSz size ys) (h1:l.length + ys.length≤maxLen) (h2:(l.length + ys.length) * bytes≤140737488355328)
    (hk:∀ r st',Own size st' r (l ++ ys)→AppSt st x st' r→obsOk st' A obs∧Ops P rest k (putV A d r) st'):App P size bytes x (.sl tk ys) d obs rest k A st:=.inl ⟨l,ys,hown,.inl ⟨tk,rfl⟩,hys,h1,h2,hk⟩
theorem App.box {size bytes:Nat} {x:V} {l ys:List V} {b o n c:Nat} {cs:List V} (hown:Own size st x l) (hb:st.box b=some cs) (hn:ys.length=n) (hfit:o + n * size≤cs.length) (he:(cs.drop o).take (n * size)=ys.flatMap V.cells) (hmo:mono cs) (hys:allSz size ys) (h1:l.length + n≤maxLen) (h2:(l.length + n) * bytes≤140737488355328)
    (hk:∀ r st',Own size st' r (l ++ ys)→AppSt st x st' r→obsOk st' A obs∧Ops P rest k (putV A d r) st'):App P size bytes x (.sc (.slice (some ⟨b,o,none⟩) n c)) d obs rest k A st:=by
  subst hn
  exact .inl ⟨l,ys,hown,.inr ⟨b,o,c,cs,rfl,hb,hfit,he,hmo⟩,hys,h1,h2,hk⟩
theorem App.mut {size bytes:Nat} {tk:Tk} {ys:List V} {b n cap:Nat} {cs:List V} (hb:st.box b=some cs) (hl:cs.length=cap * size) (hmo:mono cs) (hn:n≤cap) (hc:cap≤maxLen) (hys:allSz size ys) (h1:n + ys.length≤maxLen) (h2:(n + ys.length) * bytes≤140737488355328)
    (hk:∀ b' cap' spare,(b'=b ∨ st.sz≤b')→n + ys.length≤cap'→cap'≤maxLen→(n + ys.length) * size + spare.length=cap' * size→(n + ys.length≤cap→b'=b∧cap'=cap∧spare=cs.drop ((n + ys.length) * size))→mono (cs.take (n * size) ++ ys.flatMap V.cells ++ spare)→obsOk (st.put b' (cs.take (n * size) ++ ys.flatMap V.cells ++ spare)) A obs ∧
      Ops P rest k (putV A d (.sc (.slice (some ⟨b',0,none⟩) (n + ys.length) cap'))) (st.put b' (cs.take (n * size) ++ ys.flatMap V.cells ++ spare))):App P size bytes (.sc (.slice (some ⟨b,0,none⟩) n cap)) (.sl tk ys) d obs rest k A st :=
  .inr (.inl ⟨b,n,cap,cs,ys,rfl,hb,hl,hmo,hn,hc,.inl ⟨tk,rfl⟩,hys,h1,h2,hk⟩)
theorem App.new {size bytes:Nat} {tk:Tk} {ys:List V} (hys:allSz size ys) (h0:0 < ys.length) (h1:ys.length≤maxLen) (h2:ys.length * bytes≤140737488355328)
    (hk:∀ b' cap' spare,st.sz≤b'→ys.length≤cap'→cap'≤maxLen→ys.length * size + spare.length=cap' * size→mono (ys.flatMap V.cells ++ spare)→obsOk (st.put b' (ys.flatMap V.cells ++ spare)) A obs ∧
      Ops P rest k (putV A d (.sc (.slice (some ⟨b',0,none⟩) ys.length cap'))) (st.put b' (ys.flatMap V.cells ++ spare))):App P size bytes (.sl .nil []) (.sl tk ys) d obs rest k A st :=
  .inr (.inr (.inl ⟨ys,rfl,.inl ⟨tk,rfl⟩,hys,h0,h1,h2,hk⟩))
theorem Bo.own {size:Nat} {cs:List V} (h:allLen size cs) (hk:∀ g,st.sz≤g→obsOk (st.use g cs.length) A obs∧Ops P rest k (putV A d (.sl (.own g size) cs)) (st.use g cs.length)):Bo P size cs d obs rest k A st:=⟨h,.inl hk⟩
theorem Bo.mut {size:Nat} {cs:List V} (h:allLen size cs) (hk:∀ b,st.sz≤b→obsOk (st.put b (cs.flatMap V.cells)) A obs∧Ops P rest k (putV A d (.sc (.slice (some ⟨b,0,none⟩) cs.length cs.length))) (st.put b (cs.flatMap V.cells))):Bo P size cs d obs rest k A st:=⟨h,.inr hk⟩
end
theorem ev_t {n:Nat}:X.ev A (.t n)=A n:=_root_.id rfl
theorem ev_c {v:V}:X.ev A (.c v)=v:=_root_.id rfl
theorem put_get {d:Nat} {v:V} {t:Nat}:putV A (some d) v t=if t=d then v else A t:=_root_.id rfl
theorem opv_mk {p:Prop} {v:V} {d:Option Nat} {rest:List VO}:Opv P (p,v) d rest k A st=(p∧Ops P rest k (putV A d v) st):=_root_.id rfl
theorem stb_some {cs:List V} {size b o:Nat} {ds:List V} {obs:List (Option Nat × X × Nat)} {d:Option Nat} {rest:List VO}:Stb P (some cs) size b o ds obs d rest k A st=(ds.length=size∧0 < size∧o + size≤cs.length∧mono cs∧Stp P (splice cs o ds) b obs d rest k A st):=_root_.id rfl
theorem sto_ptr {size b o:Nat} {y:V} {obs:List (Option Nat × X × Nat)} {d:Option Nat} {rest:List VO}:Sto P size (.sc (.pointer (some ⟨b,o,none⟩))) y obs d rest k A st=Stb P (st.box b) size b o y.cells obs d rest k A st:=_root_.id rfl
theorem over_get {ws:List Nat} {B:Nat→V} {t:Nat}:over ws B A t=if ws.contains t=true then B t else A t:=by simp only [over,List.contains_eq_mem,decide_eq_true_eq]
theorem mono_nil:mono []=True:=_root_.id rfl
theorem mono_two {a b:V} {l:List V}:mono (a :: b :: l)=True:=_root_.id rfl
theorem mono_sc {v:Value} {l:List V}:mono (.sc v :: l)=True:=by cases l <;> simp [mono,V.ob]
theorem mono_any {l:List V}:mono (.any :: l)=True:=by cases l <;> simp [mono,V.ob]
theorem mono_und {l:List V}:mono (.und :: l)=True:=by cases l <;> simp [mono,V.ob]
theorem mono_sl {o:Tk} {v l:List V}:mono (.sl o v :: l)=True:=by cases l <;> simp [mono,V.ob]
theorem mono_agg {v l:List V}:mono (.agg v :: l)=True:=by cases l <;> simp [mono,V.ob]
theorem mono_ep {v l:List V} {o:Nat}:mono (.ep v o :: l)=True:=by cases l <;> simp [mono,V.ob]
theorem mono_len {cs:List V} (h:cs.length ≠ 1):mono cs:=by
  unfold mono
  split
  · simp at h
  · trivial
theorem mono_all {cs:List V} (h:∀ c ∈ cs,c.ob=false):mono cs:=by
  unfold mono
  split
  · exact h _ (by simp)
  · trivial
theorem put_none {v:V}:putV A none v=A:=_root_.id rfl
theorem put_box_same {b:Nat} {cs:List V}:(st.put b cs).box b=some cs:=by simp [St.put]
theorem put_box_ne {b c:Nat} {cs:List V} (h:c ≠ b):(st.put b cs).box c=st.box c:=by simp [St.put,h]
theorem put_sz {b:Nat} {cs:List V}:(st.put b cs).sz=max st.sz (b + 1):=_root_.id rfl
theorem put_own {b:Nat} {cs:List V}:(st.put b cs).own=st.own:=_root_.id rfl
theorem use_box {g m:Nat}:(st.use g m).box=st.box:=_root_.id rfl
theorem use_sz {g m:Nat}:(st.use g m).sz=max st.sz (g + 1):=_root_.id rfl
theorem put_put {b:Nat} {cs ds:List V}:(st.put b cs).put b ds=st.put b ds:=by
  simp only [St.put,St.mk.injEq,true_and]
  refine ⟨funext fun x=>?_,by omega⟩
  split <;> rfl
theorem emod_small {a m:Int} (h0:0≤a) (h1:a < m):a % m=a:=Int.emod_eq_of_lt h0 h1
theorem St.Wf.weak {s:St} (h:s.Wf):s.weak s:=⟨fun b cs hb=>⟨hb,h.box b cs hb⟩,fun g m hg=>⟨hg,h.own g m hg⟩,Nat.le_refl _⟩
structure St.Lt (s:St):Prop where
  box:∀ b cs,s.box b=some cs→b < s.sz
  own:∀ g m,s.own g=some m→g < s.sz
theorem St.Wf.lt {s:St} (h:s.Wf):s.Lt:=⟨h.box,h.own⟩
theorem St.Lt.put {s:St} (h:s.Lt) {b:Nat} {cs:List V}:(s.put b cs).Lt:=⟨fun c ds hc=>by
    simp only [St.put] at hc ⊢
    split at hc
    · omega
    · have:=h.box c ds hc; omega,fun g m hg=>by have:=h.own g m hg; simp only [put_sz]; omega⟩
theorem St.Lt.use {s:St} (h:s.Lt) {g m:Nat}:(s.use g m).Lt:=⟨fun c ds hc=>by have:=h.box c ds hc; simp only [use_sz]; omega,use_lt h.own⟩
theorem St.Lt.app {s s':St} {x r:V} (h:s.Lt) (k:AppSt s x s' r):s'.Lt:=⟨fun b cs hb=>by rw [k.box] at hb; have:=h.box b cs hb; have:=k.sz; omega,k.lt h.own⟩
theorem St.Lt.weak {s:St} (h:s.Lt):s.weak s:=⟨fun b cs hb=>⟨hb,h.box b cs hb⟩,fun g m hg=>⟨hg,h.own g m hg⟩,Nat.le_refl _⟩
theorem AppSt.over {s s':St} {r:V} (h:AppSt s (.sl .nil []) s' r) (hl:s.Lt):s.weak s' :=
  ⟨fun b cs hb=>⟨by rw [h.box]; exact hb,hl.box b cs hb⟩,fun g m hg=>⟨h.own g m hg (fun l k e=>by cases e),hl.own g m hg⟩,h.sz⟩
theorem AppSt.weak {s s':St} {x r:V} (h:AppSt s x s' r) (hw:s.Wf):s'.weak s' :=
  ⟨fun b cs hb=>⟨hb,by rw [h.box] at hb; have:=hw.box b cs hb; have:=h.sz; omega⟩,fun g m hg=>⟨hg,h.lt hw.own g m hg⟩,Nat.le_refl _⟩
theorem AppSt.trans {a b c:St} {x y z:V} (hw:a.Wf) (h:AppSt a x b y) (k:AppSt b y c z):AppSt a x c z :=
  ⟨k.box.trans h.box,fun hh=>k.lt (h.lt hh),Nat.le_trans h.sz k.sz,fun g m hg hne=>k.own g m (h.own g m hg hne) (fun l q e=>by
    rcases h.tok g q l e with ⟨l',h2⟩ | h2
    · exact hne l' q h2
    · exact absurd (hw.own g m hg) (by omega)),fun g q l e=>by
    rcases k.tok g q l e with ⟨l',h2⟩ | h2
    · rcases h.tok g q l' h2 with h3 | h3
      · exact .inl h3
      · exact .inr h3
    · exact .inr (Nat.le_trans h.sz h2)⟩
theorem weak_put {s t:St} {b:Nat} {cs:List V} (h:s.weak t) (hb:s.sz≤b):s.weak (t.put b cs) :=
  ⟨fun c ds hc=>⟨by rw [put_box_ne (by have:=(h.box c ds hc).2; omega)]; exact (h.box c ds hc).1,(h.box c ds hc).2⟩,fun g m hg=>h.own g m hg,by have:=h.sz; simp only [put_sz]; omega⟩
theorem weak_use {s t:St} {g m:Nat} (h:s.weak t) (hb:s.sz≤g):s.weak (t.use g m) :=
  ⟨fun c ds hc=>h.box c ds hc,fun g' m' hg=>⟨by have:=h.own g' m' hg; simp only [St.use]; rw [if_neg (by omega)]; exact this.1,(h.own g' m' hg).2⟩,by have:=h.sz; simp only [use_sz]; omega⟩
theorem weak_both {s t:St} {b:Nat} {cs:List V} (h:s.weak t):(s.put b cs).weak (t.put b cs) :=
  ⟨fun c ds hc=>by
    by_cases e:c=b
    · subst e; rw [put_box_same] at hc ⊢; exact ⟨hc,by simp only [put_sz]; omega⟩
    · rw [put_box_ne e] at hc ⊢
      exact ⟨(h.box c ds hc).1,by have:=(h.box c ds hc).2; simp only [put_sz]; omega⟩,fun g m hg=>⟨(h.own g m hg).1,by have:=(h.own g m hg).2; simp only [put_sz]; omega⟩,by have:=h.sz; simp only [put_sz]; omega⟩
theorem Wk.no {own:Tk} {l:List V}:Wk (.sl own l) (.sl .no l):=fun G v h=>by
  cases h with
  | nil own ho=>exact .nil .no (fun g k e=>by cases e)
  | emp a cap hm own he=>exact .emp a cap hm
  | sl own l b o k cap u hk hF h1 hr hcap hm ho hown=>exact .sl .no l b o k cap u hk hF h1 hr hcap hm (by simp) (fun g k' e=>by cases e)
def VO.w (o:VO):List Nat:=o.dst.toList
def VC.writes:VC→List Nat
  | .reg ops=>ops.flatMap VO.w
  | .seq a b=>a.writes ++ b.writes
  | .cond _ a b=>a.writes ++ b.writes
  | .blk _ c=>c.writes
  | .loop c=>c.writes
  | _=>[]
theorem vop_mono {o:VOp} {K K':V→St→Prop} (h:vop P o st A K) (hk:∀ r s,K r s→K' r s):vop P o st A K':=by
  cases o <;> simp only [vop] at h ⊢
  case box x=>exact ⟨h.1,fun b hb=>hk _ _ (h.2 b hb)⟩
  case alc z=>exact fun b hb=>hk _ _ (h b hb)
  case alcX z=>exact fun b h1 h2=>hk _ _ (h b h1 h2)
  case boxX x=>exact ⟨h.1,fun b h1 h2=>hk _ _ (h.2 b h1 h2)⟩
  case bslo size xs=>exact ⟨h.1,h.2.imp (fun h b hb=>hk _ _ (h b hb)) (fun h b hb=>hk _ _ (h b hb))⟩
  case store size x y =>
    unfold vstore at h ⊢
    split at h
    · split at h
      · exact ⟨h.1,h.2.1,h.2.2.1,h.2.2.2.1,hk _ _ h.2.2.2.2⟩
      · exact h
    · exact h
  case mkm ag lf=>exact fun b hb=>hk _ _ (h b hb)
  case mup ag lf x y v =>
    unfold vmup at h ⊢
    split at h
    · split at h
      · exact ⟨h.1,h.2.1,h.2.2.1,hk _ _ h.2.2.2⟩
      · exact h
    · exact h
  case mdel ag lf x y =>
    unfold vmdel at h ⊢
    split at h
    · exact ⟨h.1,hk _ _ h.2⟩
    · split at h
      · exact ⟨h.1,h.2.1,h.2.2.1,hk _ _ h.2.2.2⟩
      · exact h
    · exact h
  case rng x =>
    unfold vrng at h ⊢
    split at h
    · exact fun r hr=>hk _ _ (h r hr)
    · split at h
      · exact fun r hr=>hk _ _ (h r hr)
      · exact h
    · exact h
  case nxt x =>
    unfold vnxt at h ⊢
    split at h
    · split at h
      · exact hk _ _ h
      · split at h
        · exact ⟨h.1,h.2.1,fun j=>hk _ _ (h.2.2.1 j),fun e he hn=>hk _ _ (h.2.2.2 e he hn)⟩
        · exact h
      · exact h
    · exact h
  case rngS x =>
    unfold vrngS at h ⊢
    split at h
    · exact fun r hr=>hk _ _ (h r hr)
    · exact h
  case nxtS x =>
    unfold vnxtS at h ⊢
    split at h
    · split at h
      · rename_i s pos _
        by_cases hp:pos < s.size
        · rw [if_pos hp] at h ⊢; exact hk _ _ h
        · rw [if_neg hp] at h ⊢; exact hk _ _ h
      · exact h
    · exact h
  case clrm x =>
    unfold vclrm at h ⊢
    split at h
    · exact hk _ _ h
    · split at h
      · exact hk _ _ h
      · exact h
    · exact h
  case ment ag lf z x y =>
    unfold vment at h ⊢
    split at h
    · split at h
      · exact ⟨h.1,h.2.1,h.2.2.1,hk _ _ h.2.2.2⟩
      · exact h
    · exact h
  case est x s v =>
    unfold vest at h ⊢
    split at h
    · refine ⟨h.1,?_⟩
      have h2:=h.2
      split at h2
      · exact ⟨h2.1,hk _ _ h2.2⟩
      · exact h2
    · exact h
  case clr size z x =>
    unfold vclr at h ⊢
    split at h
    · exact hk _ _ h
    · split at h
      · exact ⟨h.1,h.2.1,hk _ _ h.2.2⟩
      · exact h
    · exact h
  case inv name x args =>
    unfold vinv at h ⊢
    split at h
    · obtain ⟨f,h1,h2,h3,h4⟩:=h
      exact ⟨f,h1,h2,h3,h4.mono fun r s h hok=>hk _ _ (h hok)⟩
    · exact h
  case cpy size x y =>
    unfold vcpy at h ⊢
    split at h
    · split at h
      · exact ⟨h.1,h.2.1,h.2.2.1,h.2.2.2.1,hk _ _ h.2.2.2.2⟩
      · exact h
    · exact h
  case calv x args =>
    unfold vcalv at h ⊢
    split at h
    · exact ⟨h.1,h.2.1,h.2.2.mono fun r s h hok=>hk _ _ (h hok)⟩
    · exact h
  case mks size bytes z x =>
    unfold vmks at h ⊢
    split at h
    · exact ⟨h.1,h.2.1,h.2.2.1,fun b hb=>hk _ _ (h.2.2.2 b hb)⟩
    · exact h
  case mko size bytes z x =>
    unfold vmko at h ⊢
    split at h
    · exact ⟨h.1,h.2.1,h.2.2.1,h.2.2.2.imp (fun h b hb=>hk _ _ (h b hb)) (fun h b hb=>hk _ _ (h b hb))⟩
    · exact h
  case app size bytes x y =>
    rcases h with ⟨l,ys,h1,h2,h3,h4,h5,h6⟩ | ⟨b,n,cap,cs,ys,h1,h2,h3,hm,h4,h5,h6,h7,h8,h9,h10⟩ | ⟨ys,h1,h2,h3,h4,h5,h6,h7⟩ | ⟨l,ys,h1,h2,h3,h4,h5,h6,h7,h8⟩ | ⟨h1,h2,h3⟩
    · exact .inl ⟨l,ys,h1,h2,h3,h4,h5,fun r s k1 k2=>hk _ _ (h6 r s k1 k2)⟩
    · exact .inr (.inl ⟨b,n,cap,cs,ys,h1,h2,h3,hm,h4,h5,h6,h7,h8,h9,fun b' cap' spare k1 k2 k3 k4 k5 k6=>hk _ _ (h10 b' cap' spare k1 k2 k3 k4 k5 k6)⟩)
    · exact .inr (.inr (.inl ⟨ys,h1,h2,h3,h4,h5,h6,fun b' cap' spare k1 k2 k3 k4 k5=>hk _ _ (h7 b' cap' spare k1 k2 k3 k4 k5)⟩))
    · exact .inr (.inr (.inr (.inl ⟨l,ys,h1,h2,h3,h4,h5,h6,h7,fun r s k1 k2=>hk _ _ (h8 r s k1 k2)⟩)))
    · exact .inr (.inr (.inr (.inr ⟨h1,h2,hk _ _ h3⟩)))
  case appx size bytes z x y =>
    refine ⟨h.1,?_⟩
    rcases h.2 with ⟨l,ys,h1,h2,h3,h4,h5,h6⟩ | ⟨b,n,cap,cs,ys,h1,h2,h3,hm,h4,h5,h6,h7,h8,h9,h10⟩ | ⟨ys,h1,h2,h3,h4,h5,h6,h7⟩ | ⟨l,ys,h1,h2,h3,h4,h5,h6,h7,h8⟩ | ⟨h1,h2,h3⟩
    · exact .inl ⟨l,ys,h1,h2,h3,h4,h5,fun r s k1 k2=>hk _ _ (h6 r s k1 k2)⟩
    · exact .inr (.inl ⟨b,n,cap,cs,ys,h1,h2,h3,hm,h4,h5,h6,h7,h8,h9,fun b' cap' spare k1 k2 k3 k4 k5 k6=>hk _ _ (h10 b' cap' spare k1 k2 k3 k4 k5 k6)⟩)
    · exact .inr (.inr (.inl ⟨ys,h1,h2,h3,h4,h5,h6,fun b' cap' spare k1 k2 k3 k4 k5=>hk _ _ (h7 b' cap' spare k1 k2 k3 k4 k5)⟩))
    · exact .inr (.inr (.inr (.inl ⟨l,ys,h1,h2,h3,h4,h5,h6,h7,fun r s k1 k2=>hk _ _ (h8 r s k1 k2)⟩)))
    · exact .inr (.inr (.inr (.inr ⟨h1,h2,hk _ _ h3⟩)))
  case call f args=>exact h.mono fun r s h hok=>hk _ _ (h hok)
  all_goals exact ⟨h.1,hk _ _ h.2⟩
theorem vops_writes (ws:List Nat) (A0:Nat→V) {K K':(Nat→V)→St→Prop} (hk:∀ A st,(∀ t,t ∉ ws→A t=A0 t)→K A st→K' A st):∀ (ops:List VO),(∀ t ∈ ops.flatMap VO.w,t ∈ ws)→∀ {A:Nat→V} {st:St},(∀ t,t ∉ ws→A t=A0 t)→vops P K ops A st→vops P K' ops A st
  | [],_,A,st,hA,h=>hk A st hA h
  | o :: ops,hw,A,st,hA,h=>by
    have hput:∀ r,∀ t,t ∉ ws→putV A o.dst r t=A0 t:=fun r t ht=>by
      cases hd:o.dst with
      | none=>exact hA t ht
      | some d =>
        simp only [putV]
        rw [if_neg (fun e=>ht (hw t (by subst e; simp [VO.w,hd])))]
        exact hA t ht
    have again:=fun {A:Nat→V} {st:St}=>vops_writes ws A0 hk ops (fun t ht=>hw t (by simp only [List.flatMap_cons,List.mem_append]; exact .inr ht)) (A:=A) (st:=st)
    simp only [vops] at h ⊢
    unfold vguard at h ⊢
    split at h
    · exact vop_mono h fun r s h=>⟨h.1,again (hput r) h.2⟩
    · split at h
      · exact ⟨fun e=>vop_mono (h.1 e) fun r s h=>⟨h.1,again (hput r) h.2⟩,fun e=>again (hput _) (h.2 e)⟩
      · exact again (hput _) h
      · exact h
theorem vwp_writes (ws:List Nat) (A0:Nat→V):∀ (c:VC),(∀ t ∈ c.writes,t ∈ ws)→∀ {Q Q':VQ} (_:∀ e A st,(∀ t,t ∉ ws→A t=A0 t)→Q e A st→Q' e A st) {A:Nat→V} {st:St},(∀ t,t ∉ ws→A t=A0 t)→vwp P c Q A st→vwp P c Q' A st:=by
  intro c
  induction c with
  | skip=>intro _ Q Q' hq A st hA h; exact hq _ _ _ hA h
  | reg ops=>intro hw Q Q' hq A st hA h; exact vops_writes ws A0 (fun A st=>hq .normal A st) ops hw hA h
  | seq a b iha ihb =>
    intro hw Q Q' hq A st hA h
    simp only [VC.writes,List.mem_append] at hw
    refine iha (fun t ht=>hw t (.inl ht)) (fun e A st hA h=>?_) hA h
    cases e with
    | normal=>exact ihb (fun t ht=>hw t (.inr ht)) hq hA h
    | exit id=>exact hq _ _ _ hA h
    | ret=>exact hq _ _ _ hA h
  | cond c a b iha ihb =>
    intro hw Q Q' hq A st hA h
    simp only [VC.writes,List.mem_append] at hw
    simp only [vwp] at h ⊢
    split at h
    · exact ⟨fun e=>iha (fun t ht=>hw t (.inl ht)) hq hA (h.1 e),fun e=>ihb (fun t ht=>hw t (.inr ht)) hq hA (h.2 e)⟩
    · exact h
  | blk id c ih =>
    intro hw Q Q' hq A st hA h
    refine ih hw (fun e A st hA h=>?_) hA h
    cases e with
    | normal=>exact hq _ _ _ hA h
    | ret=>exact hq _ _ _ hA h
    | exit i =>
      simp only [VQ.blk] at h ⊢
      split at h
      · rename_i e; rw [if_pos e]; exact hq _ _ _ hA h
      · rename_i e; rw [if_neg e]; exact hq _ _ _ hA h
  | loop c ih =>
    intro hw Q Q' hq A st hA h
    obtain ⟨I,μ,h0,hr⟩:=h
    refine ⟨fun A st=>I A st∧∀ t,t ∉ ws→A t=A0 t,μ,⟨h0,hA⟩,fun A st hI=>ih hw (fun e A' st' hA' h=>?_) hI.2 (hr A st hI.1)⟩
    cases e with
    | normal=>exact ⟨⟨h.1,hA'⟩,h.2⟩
    | exit id=>exact hq _ _ _ hA' h
    | ret=>exact hq _ _ _ hA' h
  | exit id=>intro _ Q Q' hq A st hA h; exact hq _ _ _ hA h
  | ret=>intro _ Q Q' hq A st hA h; exact hq _ _ _ hA h
def vnat:V→Nat
  | .sc (.int _ n)=>n.toNat
  | _=>0
def Rel (I:(Nat→V)→St→Prop) (μ:(Nat→V)→St→Nat) (n:Nat) (A:Nat→V) (st:St):Prop:=I A st∧μ A st < n
theorem rel_mk {I:(Nat→V)→St→Prop} {μ:(Nat→V)→St→Nat} {n:Nat}:Rel I μ n A st=(I A st∧μ A st < n):=_root_.id rfl
theorem run_loop {c:VC} (ws:List Nat) (I:(Nat→V)→St→Prop) (μ:(Nat→V)→St→Nat) (hw:(c.writes.all fun t=>ws.contains t)=true) (h0:I A st)
    (h:∀ B s,I B s→Run P c (.rnd (Rel I μ (μ B s)) k) (over ws B A) s):Run P (.loop c) k A st:=by
  have hw':∀ t ∈ c.writes,t ∈ ws:=fun t ht=>by
    have:=List.all_eq_true.1 hw t ht
    simpa using this
  refine ⟨fun B s=>I B s∧∀ t,t ∉ ws→B t=A t,μ,⟨h0,fun t _=>rfl⟩,fun B s hB=>?_⟩
  have e:over ws B A=B:=funext fun t=>by
    simp only [over]
    split
    · rfl
    · rename_i ht; exact (hB.2 t ht).symm
  have:=h B s hB.1
  rw [e] at this
  refine vwp_writes ws A c hw' (fun e A' st' hA' hq=>?_) hB.2 this
  cases e with
  | normal=>exact ⟨⟨hq.1,hA'⟩,hq.2⟩
  | exit id=>exact hq
  | ret=>exact hq
end
end
section
open Go
def beL (n:Int):Nat→List Int
  | 0=>[]
  | k + 1=>(n / 256 ^ k % 256) :: beL n k
def numL (L:List Int):Int:=L.foldl (fun n c=>256 * n + c) 0
def IsB (L:List Int):Prop:=∀ x ∈ L,0≤x∧x < 256
theorem beL_len (n:Int):∀ k,(beL n k).length=k
  | 0=>rfl
  | k + 1=>by simp [beL,beL_len n k]
theorem beL_isB (n:Int):∀ k,IsB (beL n k)
  | 0=>fun x hx=>by simp [beL] at hx
  | k + 1=>fun x hx=>by
    simp only [beL,List.mem_cons] at hx
    rcases hx with rfl | hx
    · omega
    · exact beL_isB n k x hx
theorem IsB.append {L M:List Int} (h:IsB L) (h':IsB M):IsB (L ++ M):=fun x hx=>by
  rcases List.mem_append.1 hx with h1 | h1
  · exact h x h1
  · exact h' x h1
theorem IsB.take {L:List Int} (h:IsB L) (k:Nat):IsB (L.take k):=fun x hx=>h x (List.mem_of_mem_take hx)
theorem IsB.drop {L:List Int} (h:IsB L) (k:Nat):IsB (L.drop k):=fun x hx=>h x (List.mem_of_mem_drop hx)
theorem IsB.get {L:List Int} (h:IsB L) {i:Nat} {x:Int} (hx:L[i]?=some x):0≤x∧x < 256:=h x (List.mem_of_getElem? hx)
theorem numL_nil:numL []=0:=rfl
theorem numL_snoc (L:List Int) (c:Int):numL (L ++ [c])=256 * numL L + c:=by simp [numL]
theorem pow256_pos (k:Nat):(0:Int) < 256 ^ k:=Int.pow_pos (by omega)
theorem numL_range:∀ (n:Nat) (L:List Int),L.length=n→IsB L→0≤numL L∧numL L < 256 ^ L.length
  | 0,L,hn,_=>by
    obtain rfl:=List.eq_nil_of_length_eq_zero hn
    simp [numL]
  | n + 1,L,hn,h=>by
    have hne:L ≠ []:=by rintro rfl; simp at hn
    obtain ⟨M,c,rfl⟩:∃ M c,L=M ++ [c]:=⟨L.dropLast,L.getLast hne,(List.dropLast_concat_getLast hne).symm⟩
    have hM:M.length=n:=by simpa using hn
    obtain ⟨h1,h2⟩:=numL_range n M hM (fun x hx=>h x (by simp [hx]))
    obtain ⟨h3,h4⟩:=h c (by simp)
    rw [numL_snoc,List.length_append,List.length_singleton,Int.pow_succ]
    omega
theorem numL_cons (c:Int):∀ (L:List Int),numL (c :: L)=c * 256 ^ L.length + numL L:=by
  have h:∀ (L:List Int) (a:Int),L.foldl (fun n c=>256 * n + c) a=a * 256 ^ L.length + L.foldl (fun n c=>256 * n + c) 0:=by
    intro L
    induction L with
    | nil=>intro a; simp
    | cons x L ih =>
      intro a
      simp only [List.foldl_cons,List.length_cons]
      rw [ih (256 * a + x),ih (256 * 0 + x),Int.pow_succ]
      simp only [Int.add_mul,Int.mul_zero,Int.zero_add]
      rw [show 256 * a * 256 ^ L.length=a * (256 ^ L.length * 256) from by rw [Int.mul_comm 256 a,Int.mul_assoc,Int.mul_comm 256]]
      omega
  intro L
  unfold numL
  rw [List.foldl_cons,h L (256 * 0 + c)]
  simp
theorem emod_mul_256 (n m:Int) (hm:0 < m):n % (m * 256)=n % m + m * (n / m % 256):=by
  have e1:=Int.mul_ediv_add_emod n m
  have e2:=Int.mul_ediv_add_emod (n / m) 256
  have b1:=Int.emod_nonneg n (show m ≠ 0 by omega)
  have b2:=Int.emod_lt_of_pos n hm
  have b3:=Int.emod_nonneg (n / m) (show (256:Int) ≠ 0 by omega)
  have b4:=Int.emod_lt_of_pos (n / m) (show (0:Int) < 256 by omega)
  generalize n % m=r at *
  generalize n / m % 256=s at *
  generalize n / m / 256=q at *
  have e3:m * (256 * q + s)=m * 256 * q + m * s:=by rw [Int.mul_add,Int.mul_assoc]
  have h1:0≤m * s:=Int.mul_nonneg (by omega) b3
  have h2:m * s≤m * 255:=Int.mul_le_mul_of_nonneg_left (by omega) (by omega)
  have e4:n=r + m * s + m * 256 * q:=by rw [← e1,← e2,e3]; omega
  rw [e4,Int.add_mul_emod_self_left,Int.emod_eq_of_lt (by omega) (by omega)]
theorem numL_beL (n:Int) (hn:0≤n):∀ k,numL (beL n k)=n % 256 ^ k
  | 0=>by simp [beL,numL,Int.emod_one]
  | k + 1=>by
    rw [beL,numL_cons,beL_len,numL_beL n hn k,Int.pow_succ]
    have e:=Int.emod_emod_of_dvd n (show (256 ^ k:Int) ∣ 256 ^ k * 256 from ⟨256,rfl⟩)
    have e1:n % (256 ^ k * 256)=n % 256 ^ k + 256 ^ k * (n / 256 ^ k % 256):=by
      exact emod_mul_256 n _ (pow256_pos k)
    rw [e1,Int.mul_comm (256 ^ k)]
    omega
theorem numL_eq_beL:∀ (n:Nat) (L:List Int),L.length=n→IsB L→beL (numL L) n=L
  | 0,L,hn,_=>by
    obtain rfl:=List.eq_nil_of_length_eq_zero hn
    rfl
  | n + 1,c :: L,hn,h=>by
    have hL:L.length=n:=by simpa using hn
    have hB:IsB L:=fun x hx=>h x (by simp [hx])
    obtain ⟨h1,h2⟩:=numL_range n L hL hB
    obtain ⟨h3,h4⟩:=h c (by simp)
    have hp:=pow256_pos n
    rw [hL] at h2
    have key:∀ (k:Nat),k≤n→beL (c * 256 ^ n + numL L) k=beL (numL L) k:=by
      intro k
      induction k with
      | zero=>intro _; rfl
      | succ k ih =>
        intro hk
        simp only [beL]
        rw [ih (by omega)]
        congr 1
        have e:(256:Int) ^ n=256 ^ k * (256 * 256 ^ (n - k - 1)):=by
          rw [← Int.mul_assoc,← Int.pow_succ,← Int.pow_add]
          congr 1
          omega
        rw [e,show c * (256 ^ k * (256 * 256 ^ (n - k - 1))) + numL L=numL L + 256 ^ k * (c * 256 ^ (n - k - 1) * 256) from by
          rw [Int.add_comm]
          congr 1
          rw [← Int.mul_assoc,Int.mul_comm c,Int.mul_assoc,Int.mul_assoc c,Int.mul_comm (256 ^ (n - k - 1)) 256]]
        rw [Int.add_mul_ediv_left _ _ (by have:=pow256_pos k; omega),Int.add_mul_emod_self_right]
    rw [numL_cons,hL,beL,key n (Nat.le_refl _),numL_eq_beL n L hL hB]
    congr 1
    rw [Int.add_comm,Int.add_mul_ediv_right _ _ (by omega),Int.ediv_eq_zero_of_lt h1 h2]
    omega
theorem u16_join (a b:Int) (ha:0≤a) (ha':a < 256) (hb:0≤b) (hb':b < 256):bits .or .u16 (a * 256) b=256 * a + b:=by
  rw [u16_or _ _ (by omega) (by omega) (by omega) (by omega),nat_join 8 _ _ (by omega) (by omega)]
  omega
theorem u32_join (a b:Int) (ha:0≤a) (ha':a < 65536) (hb:0≤b) (hb':b < 65536):bits .or .u32 (a * 65536) b=65536 * a + b:=by
  rw [u32_or _ _ (by omega) (by omega) (by omega) (by omega),nat_join 16 _ _ (by omega) (by omega)]
  omega
theorem u64_join (a b:Int) (ha:0≤a) (ha':a < 72057594037927936) (hb:0≤b) (hb':b < 256):bits .or .u64 (a * 256) b=256 * a + b:=by
  rw [u64_or _ _ (by omega) (by omega) (by omega) (by omega),nat_join 8 _ _ (by omega) (by omega)]
  omega
end
section
open Go
def bs (L:List Int):List V:=L.map fun n=>.sc (.int .u8 n)
theorem bs_len (L:List Int):(bs L).length=L.length:=by simp [bs]
theorem bs_get (L:List Int) (i:Nat):(bs L)[i]?=(L[i]?).map fun n=>.sc (.int .u8 n):=by simp [bs]
theorem bs_take (L:List Int) (k:Nat):(bs L).take k=bs (L.take k):=by simp [bs,List.map_take]
theorem bs_drop (L:List Int) (k:Nat):(bs L).drop k=bs (L.drop k):=by simp [bs,List.map_drop]
theorem bs_append (L M:List Int):bs L ++ bs M=bs (L ++ M):=by simp [bs]
theorem bs_nil:bs []=[]:=rfl
theorem bs_cons (x:Int) (L:List Int):bs (x :: L)=.sc (.int .u8 x) :: bs L:=rfl
theorem allSz_bs (L:List Int):allSz 1 (bs L):=fun d hd=>by
  obtain ⟨x,_,rfl⟩:=List.mem_map.1 hd; rfl
theorem allSz_bs' (L:List Int):allSz 1 (bs L)=True:=by simp [allSz_bs]
theorem mono_bs {L:List Int}:mono (bs L)=True:=eq_true (mono_all fun c hc=>by
  obtain ⟨x,_,rfl⟩:=List.mem_map.1 hc; rfl)
theorem get_ex {α:Type} {L:List α} {i:Nat} (h:i < L.length):∃ x,L[i]?=some x:=⟨_,List.getElem?_eq_getElem h⟩
theorem ibit_or (k:IntKind) (x y:Int):ibit .or k x y=bits .or k x y:=rfl
theorem vlen_max {tk:Tk} {l:List V} (h:V.Ok (.sl tk l)):(l.length:Int)≤9223372036854775807:=by have:=h.len; unfold maxLen at this; omega
theorem St.weak.refl {s:St} (hb:∀ b cs,s.box b=some cs→b < s.sz) (ho:∀ g m,s.own g=some m→g < s.sz):s.weak s:=⟨fun b cs h=>⟨h,hb b cs h⟩,fun g m h=>⟨h,ho g m h⟩,Nat.le_refl _⟩
theorem selfNe {a:Nat} (h:False):a ≠ a:=h.elim
theorem resv_1 {st:St} {A:Nat→V} {r:RV}:resV st A [r]=(rvVal st A r).2:=_root_.id rfl
theorem resv_2 {st:St} {A:Nat→V} {r q:RV} {rs:List RV}:resV st A (r :: q :: rs)=.tup ((r :: q :: rs).map fun r=>(rvVal st A r).2):=_root_.id rfl
end
abbrev zo (d:Nat) (p:VOp):VO:=⟨some d,p,none,[]⟩
abbrev zg (d:Nat) (p:VOp) (i:Nat) (b:Bool):VO:=⟨some d,p,some (i,b),[]⟩
abbrev zn (p:VOp):VO:=⟨none,p,none,[]⟩
abbrev zm (d s:Nat):VO:=⟨some d,.mv (.t s),none,[]⟩
abbrev zk (d s:Nat):VO:=⟨some d,.nilck (.t s),none,[]⟩
abbrev zf (d o s:Nat):VO:=⟨some d,.fld o (.t s),none,[]⟩
abbrev zl (d s:Nat):VO:=⟨some d,.load none (.t s),none,[]⟩
end Go.Proofs.YtnjmddlgpcnpeaaGreat
