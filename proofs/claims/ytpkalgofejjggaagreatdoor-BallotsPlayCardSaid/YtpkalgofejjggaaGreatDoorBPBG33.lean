/- Layer 21's reference (views) -/
import Derived.Test.YtpkalgofejjggaaGreatDoorBPBG01
import Derived.WalkLawsBesides
import Derived.Deep.QuietTactic
import Derived.BigQuiet
import Derived.Outline
import Derived.Test.YtpkalgofejjggaaGreatDoorRows
import Derived.WalkSpells
namespace Go.Proofs.YtpkalgofejjggaaGreatDoor
open Go.ChangeShapes Go.WideShapes Go.ChangeAt Go.RowKit Go.Proofs.Tryz
def someS(f:Int):Int:=if f<0∨2<f then 0 else f+1
def BF(n f:Int):Int:=if n<1∨7<n∨f<0∨2<f then 0 else(n+f)/2+1
theorem some_any(f:Int)(w:World):Calls prog 39 #[.int .i64 f] w fun e w'=>e=.returned (.int .i64 (someS f))/\w=w':=by
 unfold someS
 by_cases h:f<0∨2<f
 ·rw[if_pos h]
  rcases h with h|h
  all_goals
   go_enter func39,ntmps39
   go_wp2
   go_ret
   exact⟨rfl,rfl⟩
 ·rw[if_neg h];have h1:0<=f:=by omega
  have h2:f<=2:=by omega
  clear h
  go_enter func39,ntmps39
  go_wp2
  go_ret
  exact⟨rfl,rfl⟩
theorem mY(n f:Int)(w:World):Calls prog 35 #[.int .i64 n,.int .i64 f] w fun e w'=>e=.returned (.int .i64 (BF n f))/\w=w':=by
 unfold BF
 by_cases h:n<1∨7<n
 ·rw[if_pos (by omega)]
  rcases h with h|h
  all_goals
   go_enter func35,ntmps35
   go_wp2
   go_ret
   exact⟨rfl,rfl⟩
 ·have a1:1<=n:=by omega
  have a2:n<=7:=by omega
  clear h
  by_cases h:f<0∨2<f
  ·rw[if_pos (by omega)]
   rcases h with h|h
   all_goals
    go_enter func35,ntmps35
    go_wp2
    go_ret
    exact⟨rfl,rfl⟩
  ·rw[if_neg (by omega)];have h1:0<=f:=by omega
   have h2:f<=2:=by omega
   clear h;have hb:(f+1==0)=false:=by simp;omega
   go_enter func35,ntmps35
   go_wp2
   go_ret
   exact⟨rfl,rfl⟩
theorem IE(w:World):Calls prog 31 #[.pointer none] w fun e w'=>e=.returned (.bool false)/\w=w':=by
 go_enter func31,ntmps31
 go_wp2
 go_ret
 exact⟨rfl,rfl⟩
theorem JR{b m:Nat}(w:World)(h:w.cell? ⟨b,20,none⟩=some (.map (some m))):Calls prog 31 #[.pointer (some ⟨b,0,none⟩)] w fun e w'=>e=.returned (.bool true)/\Below w.heap.size w w':=by
 have hm:∀W,(binOp .neq 91 (.map (some m)) (.map none)).run prog W=.ok (.bool true) W:=fun W=>run_neq_map_nil W 91 _ _ (some m) underlying91
 go_enter func31,ntmps31
 go_wp2
 go_ret
 exact⟨rfl,U3⟩
theorem rsome_any(f:Int)(h:0<=f/\f<=2)(w:World):Calls prog 40 #[.int .i64 f] w fun e w'=>e=.returned (.int .i64 (f+1))/\w'=w:=by
 obtain⟨h1,h2⟩:=h;have q1:¬f<0:=by omega
 have q2:¬2<f:=by omega
 go_enter func40,ntmps40
 go_wp2
 go_ret
 exact⟨rfl,rfl⟩
theorem OU(n:Nat)(f:Int)(hn:1<=n/\n<=7)(h:0<=f/\f<=2)(w:World):Calls prog 36 #[.int .i64 n,.int .i64 f] w fun e w'=>e=.returned (.int .i64 (BF n f))/\w'=w:=by
 obtain⟨h1,h2⟩:=h;have q1:¬f<0:=by omega
 have q2:¬2<f:=by omega
 have q3:¬(n:Int)<1:=by omega
 have q4:¬(7:Int)<(n:Int):=by omega
 have e:BF n f=((n:Int)+f)/2+1:=by unfold BF;rw[if_neg (by omega)]
 have e2:((n:Int)+f).tdiv 2=((n:Int)+f)/2:=Int.tdiv_eq_ediv_of_nonneg (by omega);rw[e]
 go_enter func36,ntmps36
 go_wp2
 go_ret
 exact⟨by first|rfl|simp[e2],rfl⟩
end Go.Proofs.YtpkalgofejjggaaGreatDoor
