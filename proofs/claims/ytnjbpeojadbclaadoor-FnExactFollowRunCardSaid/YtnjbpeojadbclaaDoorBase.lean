/- What the walks stand on where no code is read. -/
import Derived.Test.YtnjbpeojadbclaaDoorWords
import Derived.Test.YtnjbpeojadbclaaDoorProg
import Derived.WalkSpells
import Derived.WalkLawsBesides
import Derived.BigQuiet
import Derived.Deep.QuietTactic
